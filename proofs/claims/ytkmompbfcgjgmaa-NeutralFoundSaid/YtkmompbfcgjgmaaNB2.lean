/-
  Contracts of functions of the program at the limit evaluator, continued. No condition.
-/
import Derived.Test.YtkmompbfcgjgmaaNB1
import Derived.Test.YtkmompbfcgjgmaaE40
namespace Go.Proofs.Ytkmompbfcgjgmaa.nt
open Go.GE
set_option linter.unusedVariables false
set_option linter.unusedSimpArgs false
set_option linter.unusedSectionVars false
set_option maxRecDepth 100000
set_option maxHeartbeats 4000000
attribute [local simp] runOps_nil runOps_cons runOpsF_nil runOpsF_cons fstS_some fstF_some opStep_eq want_none oStep_true oStep_false fin_pure fin_read fin_alloc fin_write storeB wrN cellV addWr o_move o_assign o_pick o_alloc o_box o_load o_store o_nilCheck o_bin o_un o_extract o_callV o_callB o_callI callV_f callV_y callV_fc o_makeFunc partsA Instr.fill builtin_len builtin_max2 bin_add bin_sub bin_mul bin_quo bin_rem bin_lss bin_leq bin_gtr bin_geq bin_eql bin_neq un_neg un_not bin_shr bin_shl wrap_u64_id opd opds optAll putO nbeq nblt constOk isC ops sub cl cr co bodyOf thenS_normal thenS_ret thenS_exit thenS_goto afterN_normal afterN_ret afterN_exit afterN_goto condS_true condS_false blockS_normal blockS_ret blockS_exit blockS_goto headS normS normK_eq fixS_nil fixS_cons fix1 fixV emptyB keepO_nil keepO_cons roundC_normal roundC_exit roundC_ret roundC_goto sweep_eq sweepD rnm pickR pickW rootsB ptrT renT ptrFn renFn ptrB_flat ptrB_non renB_flat renB_non plainS_some drawS_some fpsOk disj unord range' dropTo enumT undef wrap_i64_id Value.cells mkCells ptrTo scal cellsAt rdN endS_ret resultsA Option.bind_some tupV finish reachN dep ptrL_eq ptrL renL_eq renL ptrV_bool ptrV_int ptrV_string ptrV_nilFunc ptrV_nilIface ptrV_nilPtr ptrV_ptr ptrV_nilSl ptrV_sl ptrV_iface ptrV_agg ptrV_tuple ptrV_func renV_bool renV_int renV_string renV_nilFunc renV_nilIface renV_nilPtr renV_ptr renV_nilSl renV_sl renV_iface renV_agg renV_tuple renV_func gotoS_goto gotoS_normal gotoS_exit gotoS_ret skip_seq sliceE bnd bndHi intOf optOpd keepT_nil keepT_cons keepC_t keepC_f lk_nil lk_cons lkC_t lkC_f has_nil has_cons hasC_t hasC_f rep_nil rep_cons repC_t repC_f put_eq putC_t putC_f mem_nil mem_cons memC_t memC_f idx_nil idx_cons idxC_t idxC_f reach_nil reachP_cons reachQ_t reachQ_f ptrB_dead renB_dead ins_eq
attribute [local simp] n75_1s n75_5s n75_8s n75_9s n75_7s n75_13s n75_15s n75_17s n75_18s n75_16s n75_14s n75_12s n75_11s n75_19s n75_10s n75_6s n75_4s n75_3s n75_3g n75_2s n75_0s Try.f75 n48_1s n48_3s n48_5s n48_8s n48_11s n48_15s n48_17s n48_18s n48_16s n48_14s n48_21s n48_23s n48_24s n48_22s n48_20s n48_25s n48_19s n48_13s n48_12s n48_9s n48_7s n48_27s n48_28s n48_26s n48_6s n48_4s n48_2s n48_0s Try.f48 n49_1s n49_3s n49_4s n49_2s n49_0s Try.f49 n52_1s n52_3s n52_4s n52_2s n52_0s Try.f52
section
variable (x y : Int) (c n1 d1 n2 d2 n3 d3 n4 d4 : Nat) {cs1 cs2 cs3 cs4 : List Value} {own1 own2 own3 own4 : Bool} (s1 s2 s3 s4 : Int) (ha1 : ∀ (l n : Int), callH LL 38 [sl 6 0 n1 d1, .agg #[iv x, iv y]] [.loop (lp48 1 2 3), c1 n, c1 l, c1 0, bxP 5 4 c, .cells [sl 6 0 n1 d1, sl 7 0 n2 d2, sl 8 0 n3 d3, sl 9 0 n4 d4] 1 false true, .cells cs1 1 true own1, .cells cs2 1 true own2, .cells cs3 1 true own3, .cells cs4 1 true own4, .cells [.func (.func 38) #[] #[]] 1 false true, bxR x y] = some ⟨iv s1, [.loop (lp48 1 2 3), c1 n, c1 l, c1 0, bxP 5 4 c, .cells [sl 6 0 n1 d1, sl 7 0 n2 d2, sl 8 0 n3 d3, sl 9 0 n4 d4] 1 false true, .cells cs1 1 true own1, .cells cs2 1 true own2, .cells cs3 1 true own3, .cells cs4 1 true own4, .cells [.func (.func 38) #[] #[]] 1 false true, bxR x y], [6], []⟩) (ha2 : ∀ (l n : Int), callH LL 38 [sl 7 0 n2 d2, .agg #[iv x, iv y]] [.loop (lp48 1 2 3), c1 n, c1 l, c1 0, bxP 5 4 c, .cells [sl 6 0 n1 d1, sl 7 0 n2 d2, sl 8 0 n3 d3, sl 9 0 n4 d4] 1 false true, .cells cs1 1 true own1, .cells cs2 1 true own2, .cells cs3 1 true own3, .cells cs4 1 true own4, .cells [.func (.func 38) #[] #[]] 1 false true, bxR x y] = some ⟨iv s2, [.loop (lp48 1 2 3), c1 n, c1 l, c1 0, bxP 5 4 c, .cells [sl 6 0 n1 d1, sl 7 0 n2 d2, sl 8 0 n3 d3, sl 9 0 n4 d4] 1 false true, .cells cs1 1 true own1, .cells cs2 1 true own2, .cells cs3 1 true own3, .cells cs4 1 true own4, .cells [.func (.func 38) #[] #[]] 1 false true, bxR x y], [7], []⟩) (ha3 : ∀ (l n : Int), callH LL 38 [sl 8 0 n3 d3, .agg #[iv x, iv y]] [.loop (lp48 1 2 3), c1 n, c1 l, c1 0, bxP 5 4 c, .cells [sl 6 0 n1 d1, sl 7 0 n2 d2, sl 8 0 n3 d3, sl 9 0 n4 d4] 1 false true, .cells cs1 1 true own1, .cells cs2 1 true own2, .cells cs3 1 true own3, .cells cs4 1 true own4, .cells [.func (.func 38) #[] #[]] 1 false true, bxR x y] = some ⟨iv s3, [.loop (lp48 1 2 3), c1 n, c1 l, c1 0, bxP 5 4 c, .cells [sl 6 0 n1 d1, sl 7 0 n2 d2, sl 8 0 n3 d3, sl 9 0 n4 d4] 1 false true, .cells cs1 1 true own1, .cells cs2 1 true own2, .cells cs3 1 true own3, .cells cs4 1 true own4, .cells [.func (.func 38) #[] #[]] 1 false true, bxR x y], [8], []⟩) (ha4 : ∀ (l n : Int), callH LL 38 [sl 9 0 n4 d4, .agg #[iv x, iv y]] [.loop (lp48 1 2 3), c1 n, c1 l, c1 0, bxP 5 4 c, .cells [sl 6 0 n1 d1, sl 7 0 n2 d2, sl 8 0 n3 d3, sl 9 0 n4 d4] 1 false true, .cells cs1 1 true own1, .cells cs2 1 true own2, .cells cs3 1 true own3, .cells cs4 1 true own4, .cells [.func (.func 38) #[] #[]] 1 false true, bxR x y] = some ⟨iv s4, [.loop (lp48 1 2 3), c1 n, c1 l, c1 0, bxP 5 4 c, .cells [sl 6 0 n1 d1, sl 7 0 n2 d2, sl 8 0 n3 d3, sl 9 0 n4 d4] 1 false true, .cells cs1 1 true own1, .cells cs2 1 true own2, .cells cs3 1 true own3, .cells cs4 1 true own4, .cells [.func (.func 38) #[] #[]] 1 false true, bxR x y], [9], []⟩)
include ha1 ha2 ha3 ha4
theorem l75_4_4 (l : Int) (n : Nat) (W : List Nat) (hI : InvW l n W) (hn : n ≤ 4) : ∃ W', InvW (chL [] l) (chN [] l n) W' ∧ ((4 < 4 ∨ W ≠ []) → W' ≠ []) ∧
    lpB Try.prog LL ⟨75, 21, 12, none⟩ n75_3 n75_4 ⟨[(0, .func (.yield 0) #[] #[]), (2, pp 10), (3, pp 11), (7, sl 5 0 4 c), (8, iv 4), (9, iv 4)], [.loop (lp48 1 2 3), c1 ((n : Nat) : Int), c1 l, c1 0, bxP 5 4 c, .cells [sl 6 0 n1 d1, sl 7 0 n2 d2, sl 8 0 n3 d3, sl 9 0 n4 d4] 1 false true, .cells cs1 1 true own1, .cells cs2 1 true own2, .cells cs3 1 true own3, .cells cs4 1 true own4, .cells [.func (.func 38) #[] #[]] 1 false true, bxR x y], W⟩ =
      some (.exit 0, ⟨[], [.loop (lp48 1 2 3), c1 ((chN [] l n : Nat) : Int), c1 (chL [] l), c1 0, bxP 5 4 c, .cells [sl 6 0 n1 d1, sl 7 0 n2 d2, sl 8 0 n3 d3, sl 9 0 n4 d4] 1 false true, .cells cs1 1 true own1, .cells cs2 1 true own2, .cells cs3 1 true own3, .cells cs4 1 true own4, .cells [.func (.func 38) #[] #[]] 1 false true, bxR x y], W'⟩) := by
  refine ⟨W, hI, fun h => h.elim (fun h => absurd h (by omega)) id, ?_⟩
  simp only [chL, chN]
  rw [lpB_eq]
  simp only [lp48]
  clear ha1 ha2 ha3 ha4
  rcases hI with ⟨rfl, rfl, rfl⟩ | ⟨rfl, rfl, rfl⟩ | ⟨rfl, rfl⟩ | rfl <;>
  simp (maxSteps := 1000000) (disch := first | omega | decide | assumption | simp [scal]) [loadA_eq ia_76, lenA_sl lk_76, o_indexAddrS es_76, loadA_eq ia_71, loadA_eq ia_86, loadA_eq ia_24, ptrB, renB]
theorem l75_4_3 (l : Int) (n : Nat) (W : List Nat) (hI : InvW l n W) (hn : n ≤ 3) : ∃ W', InvW (chL [s4] l) (chN [s4] l n) W' ∧ ((3 < 4 ∨ W ≠ []) → W' ≠ []) ∧
    lpB Try.prog LL ⟨75, 21, 12, none⟩ n75_3 n75_4 ⟨[(0, .func (.yield 0) #[] #[]), (2, pp 10), (3, pp 11), (7, sl 5 0 4 c), (8, iv 4), (9, iv 3)], [.loop (lp48 1 2 3), c1 ((n : Nat) : Int), c1 l, c1 0, bxP 5 4 c, .cells [sl 6 0 n1 d1, sl 7 0 n2 d2, sl 8 0 n3 d3, sl 9 0 n4 d4] 1 false true, .cells cs1 1 true own1, .cells cs2 1 true own2, .cells cs3 1 true own3, .cells cs4 1 true own4, .cells [.func (.func 38) #[] #[]] 1 false true, bxR x y], W⟩ =
      some (.exit 0, ⟨[], [.loop (lp48 1 2 3), c1 ((chN [s4] l n : Nat) : Int), c1 (chL [s4] l), c1 0, bxP 5 4 c, .cells [sl 6 0 n1 d1, sl 7 0 n2 d2, sl 8 0 n3 d3, sl 9 0 n4 d4] 1 false true, .cells cs1 1 true own1, .cells cs2 1 true own2, .cells cs3 1 true own3, .cells cs4 1 true own4, .cells [.func (.func 38) #[] #[]] 1 false true, bxR x y], W'⟩) := by
  have ha := ha4
  have f0 := fun l n W (h : InvW l n W) (hn : n ≤ 4) => l75_4_4 x y c n1 d1 n2 d2 n3 d3 n4 d4 s1 s2 s3 s4 ha1 ha2 ha3 ha4 l n W h hn
  clear ha1 ha2 ha3 ha4
  generalize hs : s4 = s at *
  rcases hI with ⟨rfl, rfl, rfl⟩ | ⟨rfl, rfl, rfl⟩ | ⟨rfl, rfl⟩ | rfl
  · by_cases h0 : s = 0
    · subst h0
      have q1 : chL (0 :: []) 0 = chL [] 0 := by simp [chL]
      have q2 : chN (0 :: []) 0 0 = chN [] 0 0 := by simp [chN]
      obtain ⟨W', i1, i2, this⟩ := f0 0 0 [0] (.inr (.inl ⟨rfl, rfl, rfl⟩)) (by omega)
      have yy := y48z 0 ((0 : Nat) : Int)
      rw [q1, q2]
      refine ⟨W', i1, fun _ => i2 (.inr (by simp)), ?_⟩
      clear f0 q1 q2 i1 i2
      generalize chL [] _ = Z1 at *
      generalize chN [] _ _ = Z2 at *
      try simp only [cast1, Int.natCast_zero, Int.zero_add] at this
      try simp only [Int.natCast_zero, Int.zero_add] at yy
      try simp only [Int.natCast_zero]
      rw [lpB_eq]
      simp only [lp48] at ha yy this ⊢
      simp (maxSteps := 1000000) (disch := first | omega | decide | assumption | simp [scal]) [loadA_eq ia_76, lenA_sl lk_76, o_indexAddrS es_76, loadA_eq ia_71, loadA_eq ia_86, loadA_eq ia_24, ptrB, renB, ha, yy, addWr, ins, this, Int.natCast_zero]
    · skip
      have q1 : chL (s :: []) 0 = chL [] s := by simp [chL, h0]
      have q2 : chN (s :: []) 0 0 = chN [] s 0 := by simp [chN, h0]
      obtain ⟨W', i1, i2, this⟩ := f0 s 0 [0, 2] (.inr (.inr (.inl ⟨rfl, rfl⟩))) (by omega)
      have yy := y48b s 0 0 (by omega) h0 rfl
      rw [q1, q2]
      refine ⟨W', i1, fun _ => i2 (.inr (by simp)), ?_⟩
      clear f0 q1 q2 i1 i2
      generalize chL [] _ = Z1 at *
      generalize chN [] _ _ = Z2 at *
      try simp only [cast1, Int.natCast_zero, Int.zero_add] at this
      try simp only [Int.natCast_zero, Int.zero_add] at yy
      try simp only [Int.natCast_zero]
      rw [lpB_eq]
      simp only [lp48] at ha yy this ⊢
      simp (maxSteps := 1000000) (disch := first | omega | decide | assumption | simp [scal]) [loadA_eq ia_76, lenA_sl lk_76, o_indexAddrS es_76, loadA_eq ia_71, loadA_eq ia_86, loadA_eq ia_24, ptrB, renB, ha, yy, addWr, ins, this, Int.natCast_zero]
  · by_cases h0 : s = 0
    · subst h0
      have q1 : chL (0 :: []) 0 = chL [] 0 := by simp [chL]
      have q2 : chN (0 :: []) 0 0 = chN [] 0 0 := by simp [chN]
      obtain ⟨W', i1, i2, this⟩ := f0 0 0 [0] (.inr (.inl ⟨rfl, rfl, rfl⟩)) (by omega)
      have yy := y48z 0 ((0 : Nat) : Int)
      rw [q1, q2]
      refine ⟨W', i1, fun _ => i2 (.inr (by simp)), ?_⟩
      clear f0 q1 q2 i1 i2
      generalize chL [] _ = Z1 at *
      generalize chN [] _ _ = Z2 at *
      try simp only [cast1, Int.natCast_zero, Int.zero_add] at this
      try simp only [Int.natCast_zero, Int.zero_add] at yy
      try simp only [Int.natCast_zero]
      rw [lpB_eq]
      simp only [lp48] at ha yy this ⊢
      simp (maxSteps := 1000000) (disch := first | omega | decide | assumption | simp [scal]) [loadA_eq ia_76, lenA_sl lk_76, o_indexAddrS es_76, loadA_eq ia_71, loadA_eq ia_86, loadA_eq ia_24, ptrB, renB, ha, yy, addWr, ins, this, Int.natCast_zero]
    · skip
      have q1 : chL (s :: []) 0 = chL [] s := by simp [chL, h0]
      have q2 : chN (s :: []) 0 0 = chN [] s 0 := by simp [chN, h0]
      obtain ⟨W', i1, i2, this⟩ := f0 s 0 [0, 2] (.inr (.inr (.inl ⟨rfl, rfl⟩))) (by omega)
      have yy := y48b s 0 0 (by omega) h0 rfl
      rw [q1, q2]
      refine ⟨W', i1, fun _ => i2 (.inr (by simp)), ?_⟩
      clear f0 q1 q2 i1 i2
      generalize chL [] _ = Z1 at *
      generalize chN [] _ _ = Z2 at *
      try simp only [cast1, Int.natCast_zero, Int.zero_add] at this
      try simp only [Int.natCast_zero, Int.zero_add] at yy
      try simp only [Int.natCast_zero]
      rw [lpB_eq]
      simp only [lp48] at ha yy this ⊢
      simp (maxSteps := 1000000) (disch := first | omega | decide | assumption | simp [scal]) [loadA_eq ia_76, lenA_sl lk_76, o_indexAddrS es_76, loadA_eq ia_71, loadA_eq ia_86, loadA_eq ia_24, ptrB, renB, ha, yy, addWr, ins, this, Int.natCast_zero]
  · by_cases h0 : s = 0
    · subst h0
      have q1 : chL (0 :: []) l = chL [] l := by simp [chL]
      have q2 : chN (0 :: []) l 0 = chN [] l 0 := by simp [chN]
      obtain ⟨W', i1, i2, this⟩ := f0 l 0 [0, 2] (.inr (.inr (.inl ⟨rfl, rfl⟩))) (by omega)
      have yy := y48z l ((0 : Nat) : Int)
      rw [q1, q2]
      refine ⟨W', i1, fun _ => i2 (.inr (by simp)), ?_⟩
      clear f0 q1 q2 i1 i2
      generalize chL [] _ = Z1 at *
      generalize chN [] _ _ = Z2 at *
      try simp only [cast1, Int.natCast_zero, Int.zero_add] at this
      try simp only [Int.natCast_zero, Int.zero_add] at yy
      try simp only [Int.natCast_zero]
      rw [lpB_eq]
      simp only [lp48] at ha yy this ⊢
      simp (maxSteps := 1000000) (disch := first | omega | decide | assumption | simp [scal]) [loadA_eq ia_76, lenA_sl lk_76, o_indexAddrS es_76, loadA_eq ia_71, loadA_eq ia_86, loadA_eq ia_24, ptrB, renB, ha, yy, addWr, ins, this, Int.natCast_zero]
    · by_cases h1 : l = 0
      · subst h1
        have q1 : chL (s :: []) 0 = chL [] s := by simp [chL, h0]
        have q2 : chN (s :: []) 0 0 = chN [] s 0 := by simp [chN, h0]
        obtain ⟨W', i1, i2, this⟩ := f0 s 0 [0, 2] (.inr (.inr (.inl ⟨rfl, rfl⟩))) (by omega)
        have yy := y48b s 0 0 (by omega) h0 rfl
        rw [q1, q2]
        refine ⟨W', i1, fun _ => i2 (.inr (by simp)), ?_⟩
        clear f0 q1 q2 i1 i2
        generalize chL [] _ = Z1 at *
        generalize chN [] _ _ = Z2 at *
        try simp only [cast1, Int.natCast_zero, Int.zero_add] at this
        try simp only [Int.natCast_zero, Int.zero_add] at yy
        try simp only [Int.natCast_zero]
        rw [lpB_eq]
        simp only [lp48] at ha yy this ⊢
        simp (maxSteps := 1000000) (disch := first | omega | decide | assumption | simp [scal]) [loadA_eq ia_76, lenA_sl lk_76, o_indexAddrS es_76, loadA_eq ia_71, loadA_eq ia_86, loadA_eq ia_24, ptrB, renB, ha, yy, addWr, ins, this, Int.natCast_zero]
      · by_cases h2 : s = l
        · skip
          have q1 : chL (s :: []) l = chL [] s := by simp [chL, h0, h1, h2]
          have q2 : chN (s :: []) l 0 = chN [] s 0 := by simp [chN, h0, h1, h2]
          obtain ⟨W', i1, i2, this⟩ := f0 s 0 [0, 2] (.inr (.inr (.inl ⟨rfl, rfl⟩))) (by omega)
          have yy := y48c s l 0 (by omega) h0 h1 h2
          rw [q1, q2]
          refine ⟨W', i1, fun _ => i2 (.inr (by simp)), ?_⟩
          clear f0 q1 q2 i1 i2
          generalize chL [] _ = Z1 at *
          generalize chN [] _ _ = Z2 at *
          try simp only [cast1, Int.natCast_zero, Int.zero_add] at this
          try simp only [Int.natCast_zero, Int.zero_add] at yy
          try simp only [Int.natCast_zero]
          rw [lpB_eq]
          simp only [lp48] at ha yy this ⊢
          simp (maxSteps := 1000000) (disch := first | omega | decide | assumption | simp [scal]) [loadA_eq ia_76, lenA_sl lk_76, o_indexAddrS es_76, loadA_eq ia_71, loadA_eq ia_86, loadA_eq ia_24, ptrB, renB, ha, yy, addWr, ins, this, Int.natCast_zero]
        · skip
          have q1 : chL (s :: []) l = chL [] s := by simp [chL, h0, h1, h2]
          have q2 : chN (s :: []) l 0 = chN [] s (0 + 1) := by simp [chN, h0, h1, h2]
          obtain ⟨W', i1, i2, this⟩ := f0 s (0 + 1) [0, 2, 1] (.inr (.inr (.inr rfl))) (by omega)
          have yy := y48a s l 0 (by omega) h0 h1 h2
          rw [q1, q2]
          refine ⟨W', i1, fun _ => i2 (.inr (by simp)), ?_⟩
          clear f0 q1 q2 i1 i2
          generalize chL [] _ = Z1 at *
          generalize chN [] _ _ = Z2 at *
          try simp only [cast1, Int.natCast_zero, Int.zero_add] at this
          try simp only [Int.natCast_zero, Int.zero_add] at yy
          try simp only [Int.natCast_zero]
          rw [lpB_eq]
          simp only [lp48] at ha yy this ⊢
          simp (maxSteps := 1000000) (disch := first | omega | decide | assumption | simp [scal]) [loadA_eq ia_76, lenA_sl lk_76, o_indexAddrS es_76, loadA_eq ia_71, loadA_eq ia_86, loadA_eq ia_24, ptrB, renB, ha, yy, addWr, ins, this, Int.natCast_zero]
  · by_cases h0 : s = 0
    · subst h0
      have q1 : chL (0 :: []) l = chL [] l := by simp [chL]
      have q2 : chN (0 :: []) l n = chN [] l n := by simp [chN]
      obtain ⟨W', i1, i2, this⟩ := f0 l n [0, 2, 1] (.inr (.inr (.inr rfl))) (by omega)
      have yy := y48z l ((n : Nat) : Int)
      rw [q1, q2]
      refine ⟨W', i1, fun _ => i2 (.inr (by simp)), ?_⟩
      clear f0 q1 q2 i1 i2
      generalize chL [] _ = Z1 at *
      generalize chN [] _ _ = Z2 at *
      try simp only [cast1, Int.natCast_zero, Int.zero_add] at this
      try simp only [Int.natCast_zero, Int.zero_add] at yy
      try simp only [Int.natCast_zero]
      rw [lpB_eq]
      simp only [lp48] at ha yy this ⊢
      simp (maxSteps := 1000000) (disch := first | omega | decide | assumption | simp [scal]) [loadA_eq ia_76, lenA_sl lk_76, o_indexAddrS es_76, loadA_eq ia_71, loadA_eq ia_86, loadA_eq ia_24, ptrB, renB, ha, yy, addWr, ins, this]
    · by_cases h1 : l = 0
      · subst h1
        have q1 : chL (s :: []) 0 = chL [] s := by simp [chL, h0]
        have q2 : chN (s :: []) 0 n = chN [] s n := by simp [chN, h0]
        obtain ⟨W', i1, i2, this⟩ := f0 s n [0, 2, 1] (.inr (.inr (.inr rfl))) (by omega)
        have yy := y48b s 0 n (by omega) h0 rfl
        rw [q1, q2]
        refine ⟨W', i1, fun _ => i2 (.inr (by simp)), ?_⟩
        clear f0 q1 q2 i1 i2
        generalize chL [] _ = Z1 at *
        generalize chN [] _ _ = Z2 at *
        try simp only [cast1, Int.natCast_zero, Int.zero_add] at this
        try simp only [Int.natCast_zero, Int.zero_add] at yy
        try simp only [Int.natCast_zero]
        rw [lpB_eq]
        simp only [lp48] at ha yy this ⊢
        simp (maxSteps := 1000000) (disch := first | omega | decide | assumption | simp [scal]) [loadA_eq ia_76, lenA_sl lk_76, o_indexAddrS es_76, loadA_eq ia_71, loadA_eq ia_86, loadA_eq ia_24, ptrB, renB, ha, yy, addWr, ins, this]
      · by_cases h2 : s = l
        · skip
          have q1 : chL (s :: []) l = chL [] s := by simp [chL, h0, h1, h2]
          have q2 : chN (s :: []) l n = chN [] s n := by simp [chN, h0, h1, h2]
          obtain ⟨W', i1, i2, this⟩ := f0 s n [0, 2, 1] (.inr (.inr (.inr rfl))) (by omega)
          have yy := y48c s l n (by omega) h0 h1 h2
          rw [q1, q2]
          refine ⟨W', i1, fun _ => i2 (.inr (by simp)), ?_⟩
          clear f0 q1 q2 i1 i2
          generalize chL [] _ = Z1 at *
          generalize chN [] _ _ = Z2 at *
          try simp only [cast1, Int.natCast_zero, Int.zero_add] at this
          try simp only [Int.natCast_zero, Int.zero_add] at yy
          try simp only [Int.natCast_zero]
          rw [lpB_eq]
          simp only [lp48] at ha yy this ⊢
          simp (maxSteps := 1000000) (disch := first | omega | decide | assumption | simp [scal]) [loadA_eq ia_76, lenA_sl lk_76, o_indexAddrS es_76, loadA_eq ia_71, loadA_eq ia_86, loadA_eq ia_24, ptrB, renB, ha, yy, addWr, ins, this]
        · skip
          have q1 : chL (s :: []) l = chL [] s := by simp [chL, h0, h1, h2]
          have q2 : chN (s :: []) l n = chN [] s (n + 1) := by simp [chN, h0, h1, h2]
          obtain ⟨W', i1, i2, this⟩ := f0 s (n + 1) [0, 2, 1] (.inr (.inr (.inr rfl))) (by omega)
          have yy := y48a s l n (by omega) h0 h1 h2
          rw [q1, q2]
          refine ⟨W', i1, fun _ => i2 (.inr (by simp)), ?_⟩
          clear f0 q1 q2 i1 i2
          generalize chL [] _ = Z1 at *
          generalize chN [] _ _ = Z2 at *
          try simp only [cast1, Int.natCast_zero, Int.zero_add] at this
          try simp only [Int.natCast_zero, Int.zero_add] at yy
          try simp only [Int.natCast_zero]
          rw [lpB_eq]
          simp only [lp48] at ha yy this ⊢
          simp (maxSteps := 1000000) (disch := first | omega | decide | assumption | simp [scal]) [loadA_eq ia_76, lenA_sl lk_76, o_indexAddrS es_76, loadA_eq ia_71, loadA_eq ia_86, loadA_eq ia_24, ptrB, renB, ha, yy, addWr, ins, this]
theorem l75_4_2 (l : Int) (n : Nat) (W : List Nat) (hI : InvW l n W) (hn : n ≤ 2) : ∃ W', InvW (chL [s3, s4] l) (chN [s3, s4] l n) W' ∧ ((2 < 4 ∨ W ≠ []) → W' ≠ []) ∧
    lpB Try.prog LL ⟨75, 21, 12, none⟩ n75_3 n75_4 ⟨[(0, .func (.yield 0) #[] #[]), (2, pp 10), (3, pp 11), (7, sl 5 0 4 c), (8, iv 4), (9, iv 2)], [.loop (lp48 1 2 3), c1 ((n : Nat) : Int), c1 l, c1 0, bxP 5 4 c, .cells [sl 6 0 n1 d1, sl 7 0 n2 d2, sl 8 0 n3 d3, sl 9 0 n4 d4] 1 false true, .cells cs1 1 true own1, .cells cs2 1 true own2, .cells cs3 1 true own3, .cells cs4 1 true own4, .cells [.func (.func 38) #[] #[]] 1 false true, bxR x y], W⟩ =
      some (.exit 0, ⟨[], [.loop (lp48 1 2 3), c1 ((chN [s3, s4] l n : Nat) : Int), c1 (chL [s3, s4] l), c1 0, bxP 5 4 c, .cells [sl 6 0 n1 d1, sl 7 0 n2 d2, sl 8 0 n3 d3, sl 9 0 n4 d4] 1 false true, .cells cs1 1 true own1, .cells cs2 1 true own2, .cells cs3 1 true own3, .cells cs4 1 true own4, .cells [.func (.func 38) #[] #[]] 1 false true, bxR x y], W'⟩) := by
  have ha := ha3
  have f0 := fun l n W (h : InvW l n W) (hn : n ≤ 3) => l75_4_3 x y c n1 d1 n2 d2 n3 d3 n4 d4 s1 s2 s3 s4 ha1 ha2 ha3 ha4 l n W h hn
  clear ha1 ha2 ha3 ha4
  generalize hs : s3 = s at *
  rcases hI with ⟨rfl, rfl, rfl⟩ | ⟨rfl, rfl, rfl⟩ | ⟨rfl, rfl⟩ | rfl
  · by_cases h0 : s = 0
    · subst h0
      have q1 : chL (0 :: [s4]) 0 = chL [s4] 0 := by simp [chL]
      have q2 : chN (0 :: [s4]) 0 0 = chN [s4] 0 0 := by simp [chN]
      obtain ⟨W', i1, i2, this⟩ := f0 0 0 [0] (.inr (.inl ⟨rfl, rfl, rfl⟩)) (by omega)
      have yy := y48z 0 ((0 : Nat) : Int)
      rw [q1, q2]
      refine ⟨W', i1, fun _ => i2 (.inr (by simp)), ?_⟩
      clear f0 q1 q2 i1 i2
      generalize chL [s4] _ = Z1 at *
      generalize chN [s4] _ _ = Z2 at *
      try simp only [cast1, Int.natCast_zero, Int.zero_add] at this
      try simp only [Int.natCast_zero, Int.zero_add] at yy
      try simp only [Int.natCast_zero]
      rw [lpB_eq]
      simp only [lp48] at ha yy this ⊢
      simp (maxSteps := 1000000) (disch := first | omega | decide | assumption | simp [scal]) [loadA_eq ia_76, lenA_sl lk_76, o_indexAddrS es_76, loadA_eq ia_71, loadA_eq ia_86, loadA_eq ia_24, ptrB, renB, ha, yy, addWr, ins, this, Int.natCast_zero]
    · skip
      have q1 : chL (s :: [s4]) 0 = chL [s4] s := by simp [chL, h0]
      have q2 : chN (s :: [s4]) 0 0 = chN [s4] s 0 := by simp [chN, h0]
      obtain ⟨W', i1, i2, this⟩ := f0 s 0 [0, 2] (.inr (.inr (.inl ⟨rfl, rfl⟩))) (by omega)
      have yy := y48b s 0 0 (by omega) h0 rfl
      rw [q1, q2]
      refine ⟨W', i1, fun _ => i2 (.inr (by simp)), ?_⟩
      clear f0 q1 q2 i1 i2
      generalize chL [s4] _ = Z1 at *
      generalize chN [s4] _ _ = Z2 at *
      try simp only [cast1, Int.natCast_zero, Int.zero_add] at this
      try simp only [Int.natCast_zero, Int.zero_add] at yy
      try simp only [Int.natCast_zero]
      rw [lpB_eq]
      simp only [lp48] at ha yy this ⊢
      simp (maxSteps := 1000000) (disch := first | omega | decide | assumption | simp [scal]) [loadA_eq ia_76, lenA_sl lk_76, o_indexAddrS es_76, loadA_eq ia_71, loadA_eq ia_86, loadA_eq ia_24, ptrB, renB, ha, yy, addWr, ins, this, Int.natCast_zero]
  · by_cases h0 : s = 0
    · subst h0
      have q1 : chL (0 :: [s4]) 0 = chL [s4] 0 := by simp [chL]
      have q2 : chN (0 :: [s4]) 0 0 = chN [s4] 0 0 := by simp [chN]
      obtain ⟨W', i1, i2, this⟩ := f0 0 0 [0] (.inr (.inl ⟨rfl, rfl, rfl⟩)) (by omega)
      have yy := y48z 0 ((0 : Nat) : Int)
      rw [q1, q2]
      refine ⟨W', i1, fun _ => i2 (.inr (by simp)), ?_⟩
      clear f0 q1 q2 i1 i2
      generalize chL [s4] _ = Z1 at *
      generalize chN [s4] _ _ = Z2 at *
      try simp only [cast1, Int.natCast_zero, Int.zero_add] at this
      try simp only [Int.natCast_zero, Int.zero_add] at yy
      try simp only [Int.natCast_zero]
      rw [lpB_eq]
      simp only [lp48] at ha yy this ⊢
      simp (maxSteps := 1000000) (disch := first | omega | decide | assumption | simp [scal]) [loadA_eq ia_76, lenA_sl lk_76, o_indexAddrS es_76, loadA_eq ia_71, loadA_eq ia_86, loadA_eq ia_24, ptrB, renB, ha, yy, addWr, ins, this, Int.natCast_zero]
    · skip
      have q1 : chL (s :: [s4]) 0 = chL [s4] s := by simp [chL, h0]
      have q2 : chN (s :: [s4]) 0 0 = chN [s4] s 0 := by simp [chN, h0]
      obtain ⟨W', i1, i2, this⟩ := f0 s 0 [0, 2] (.inr (.inr (.inl ⟨rfl, rfl⟩))) (by omega)
      have yy := y48b s 0 0 (by omega) h0 rfl
      rw [q1, q2]
      refine ⟨W', i1, fun _ => i2 (.inr (by simp)), ?_⟩
      clear f0 q1 q2 i1 i2
      generalize chL [s4] _ = Z1 at *
      generalize chN [s4] _ _ = Z2 at *
      try simp only [cast1, Int.natCast_zero, Int.zero_add] at this
      try simp only [Int.natCast_zero, Int.zero_add] at yy
      try simp only [Int.natCast_zero]
      rw [lpB_eq]
      simp only [lp48] at ha yy this ⊢
      simp (maxSteps := 1000000) (disch := first | omega | decide | assumption | simp [scal]) [loadA_eq ia_76, lenA_sl lk_76, o_indexAddrS es_76, loadA_eq ia_71, loadA_eq ia_86, loadA_eq ia_24, ptrB, renB, ha, yy, addWr, ins, this, Int.natCast_zero]
  · by_cases h0 : s = 0
    · subst h0
      have q1 : chL (0 :: [s4]) l = chL [s4] l := by simp [chL]
      have q2 : chN (0 :: [s4]) l 0 = chN [s4] l 0 := by simp [chN]
      obtain ⟨W', i1, i2, this⟩ := f0 l 0 [0, 2] (.inr (.inr (.inl ⟨rfl, rfl⟩))) (by omega)
      have yy := y48z l ((0 : Nat) : Int)
      rw [q1, q2]
      refine ⟨W', i1, fun _ => i2 (.inr (by simp)), ?_⟩
      clear f0 q1 q2 i1 i2
      generalize chL [s4] _ = Z1 at *
      generalize chN [s4] _ _ = Z2 at *
      try simp only [cast1, Int.natCast_zero, Int.zero_add] at this
      try simp only [Int.natCast_zero, Int.zero_add] at yy
      try simp only [Int.natCast_zero]
      rw [lpB_eq]
      simp only [lp48] at ha yy this ⊢
      simp (maxSteps := 1000000) (disch := first | omega | decide | assumption | simp [scal]) [loadA_eq ia_76, lenA_sl lk_76, o_indexAddrS es_76, loadA_eq ia_71, loadA_eq ia_86, loadA_eq ia_24, ptrB, renB, ha, yy, addWr, ins, this, Int.natCast_zero]
    · by_cases h1 : l = 0
      · subst h1
        have q1 : chL (s :: [s4]) 0 = chL [s4] s := by simp [chL, h0]
        have q2 : chN (s :: [s4]) 0 0 = chN [s4] s 0 := by simp [chN, h0]
        obtain ⟨W', i1, i2, this⟩ := f0 s 0 [0, 2] (.inr (.inr (.inl ⟨rfl, rfl⟩))) (by omega)
        have yy := y48b s 0 0 (by omega) h0 rfl
        rw [q1, q2]
        refine ⟨W', i1, fun _ => i2 (.inr (by simp)), ?_⟩
        clear f0 q1 q2 i1 i2
        generalize chL [s4] _ = Z1 at *
        generalize chN [s4] _ _ = Z2 at *
        try simp only [cast1, Int.natCast_zero, Int.zero_add] at this
        try simp only [Int.natCast_zero, Int.zero_add] at yy
        try simp only [Int.natCast_zero]
        rw [lpB_eq]
        simp only [lp48] at ha yy this ⊢
        simp (maxSteps := 1000000) (disch := first | omega | decide | assumption | simp [scal]) [loadA_eq ia_76, lenA_sl lk_76, o_indexAddrS es_76, loadA_eq ia_71, loadA_eq ia_86, loadA_eq ia_24, ptrB, renB, ha, yy, addWr, ins, this, Int.natCast_zero]
      · by_cases h2 : s = l
        · skip
          have q1 : chL (s :: [s4]) l = chL [s4] s := by simp [chL, h0, h1, h2]
          have q2 : chN (s :: [s4]) l 0 = chN [s4] s 0 := by simp [chN, h0, h1, h2]
          obtain ⟨W', i1, i2, this⟩ := f0 s 0 [0, 2] (.inr (.inr (.inl ⟨rfl, rfl⟩))) (by omega)
          have yy := y48c s l 0 (by omega) h0 h1 h2
          rw [q1, q2]
          refine ⟨W', i1, fun _ => i2 (.inr (by simp)), ?_⟩
          clear f0 q1 q2 i1 i2
          generalize chL [s4] _ = Z1 at *
          generalize chN [s4] _ _ = Z2 at *
          try simp only [cast1, Int.natCast_zero, Int.zero_add] at this
          try simp only [Int.natCast_zero, Int.zero_add] at yy
          try simp only [Int.natCast_zero]
          rw [lpB_eq]
          simp only [lp48] at ha yy this ⊢
          simp (maxSteps := 1000000) (disch := first | omega | decide | assumption | simp [scal]) [loadA_eq ia_76, lenA_sl lk_76, o_indexAddrS es_76, loadA_eq ia_71, loadA_eq ia_86, loadA_eq ia_24, ptrB, renB, ha, yy, addWr, ins, this, Int.natCast_zero]
        · skip
          have q1 : chL (s :: [s4]) l = chL [s4] s := by simp [chL, h0, h1, h2]
          have q2 : chN (s :: [s4]) l 0 = chN [s4] s (0 + 1) := by simp [chN, h0, h1, h2]
          obtain ⟨W', i1, i2, this⟩ := f0 s (0 + 1) [0, 2, 1] (.inr (.inr (.inr rfl))) (by omega)
          have yy := y48a s l 0 (by omega) h0 h1 h2
          rw [q1, q2]
          refine ⟨W', i1, fun _ => i2 (.inr (by simp)), ?_⟩
          clear f0 q1 q2 i1 i2
          generalize chL [s4] _ = Z1 at *
          generalize chN [s4] _ _ = Z2 at *
          try simp only [cast1, Int.natCast_zero, Int.zero_add] at this
          try simp only [Int.natCast_zero, Int.zero_add] at yy
          try simp only [Int.natCast_zero]
          rw [lpB_eq]
          simp only [lp48] at ha yy this ⊢
          simp (maxSteps := 1000000) (disch := first | omega | decide | assumption | simp [scal]) [loadA_eq ia_76, lenA_sl lk_76, o_indexAddrS es_76, loadA_eq ia_71, loadA_eq ia_86, loadA_eq ia_24, ptrB, renB, ha, yy, addWr, ins, this, Int.natCast_zero]
  · by_cases h0 : s = 0
    · subst h0
      have q1 : chL (0 :: [s4]) l = chL [s4] l := by simp [chL]
      have q2 : chN (0 :: [s4]) l n = chN [s4] l n := by simp [chN]
      obtain ⟨W', i1, i2, this⟩ := f0 l n [0, 2, 1] (.inr (.inr (.inr rfl))) (by omega)
      have yy := y48z l ((n : Nat) : Int)
      rw [q1, q2]
      refine ⟨W', i1, fun _ => i2 (.inr (by simp)), ?_⟩
      clear f0 q1 q2 i1 i2
      generalize chL [s4] _ = Z1 at *
      generalize chN [s4] _ _ = Z2 at *
      try simp only [cast1, Int.natCast_zero, Int.zero_add] at this
      try simp only [Int.natCast_zero, Int.zero_add] at yy
      try simp only [Int.natCast_zero]
      rw [lpB_eq]
      simp only [lp48] at ha yy this ⊢
      simp (maxSteps := 1000000) (disch := first | omega | decide | assumption | simp [scal]) [loadA_eq ia_76, lenA_sl lk_76, o_indexAddrS es_76, loadA_eq ia_71, loadA_eq ia_86, loadA_eq ia_24, ptrB, renB, ha, yy, addWr, ins, this]
    · by_cases h1 : l = 0
      · subst h1
        have q1 : chL (s :: [s4]) 0 = chL [s4] s := by simp [chL, h0]
        have q2 : chN (s :: [s4]) 0 n = chN [s4] s n := by simp [chN, h0]
        obtain ⟨W', i1, i2, this⟩ := f0 s n [0, 2, 1] (.inr (.inr (.inr rfl))) (by omega)
        have yy := y48b s 0 n (by omega) h0 rfl
        rw [q1, q2]
        refine ⟨W', i1, fun _ => i2 (.inr (by simp)), ?_⟩
        clear f0 q1 q2 i1 i2
        generalize chL [s4] _ = Z1 at *
        generalize chN [s4] _ _ = Z2 at *
        try simp only [cast1, Int.natCast_zero, Int.zero_add] at this
        try simp only [Int.natCast_zero, Int.zero_add] at yy
        try simp only [Int.natCast_zero]
        rw [lpB_eq]
        simp only [lp48] at ha yy this ⊢
        simp (maxSteps := 1000000) (disch := first | omega | decide | assumption | simp [scal]) [loadA_eq ia_76, lenA_sl lk_76, o_indexAddrS es_76, loadA_eq ia_71, loadA_eq ia_86, loadA_eq ia_24, ptrB, renB, ha, yy, addWr, ins, this]
      · by_cases h2 : s = l
        · skip
          have q1 : chL (s :: [s4]) l = chL [s4] s := by simp [chL, h0, h1, h2]
          have q2 : chN (s :: [s4]) l n = chN [s4] s n := by simp [chN, h0, h1, h2]
          obtain ⟨W', i1, i2, this⟩ := f0 s n [0, 2, 1] (.inr (.inr (.inr rfl))) (by omega)
          have yy := y48c s l n (by omega) h0 h1 h2
          rw [q1, q2]
          refine ⟨W', i1, fun _ => i2 (.inr (by simp)), ?_⟩
          clear f0 q1 q2 i1 i2
          generalize chL [s4] _ = Z1 at *
          generalize chN [s4] _ _ = Z2 at *
          try simp only [cast1, Int.natCast_zero, Int.zero_add] at this
          try simp only [Int.natCast_zero, Int.zero_add] at yy
          try simp only [Int.natCast_zero]
          rw [lpB_eq]
          simp only [lp48] at ha yy this ⊢
          simp (maxSteps := 1000000) (disch := first | omega | decide | assumption | simp [scal]) [loadA_eq ia_76, lenA_sl lk_76, o_indexAddrS es_76, loadA_eq ia_71, loadA_eq ia_86, loadA_eq ia_24, ptrB, renB, ha, yy, addWr, ins, this]
        · skip
          have q1 : chL (s :: [s4]) l = chL [s4] s := by simp [chL, h0, h1, h2]
          have q2 : chN (s :: [s4]) l n = chN [s4] s (n + 1) := by simp [chN, h0, h1, h2]
          obtain ⟨W', i1, i2, this⟩ := f0 s (n + 1) [0, 2, 1] (.inr (.inr (.inr rfl))) (by omega)
          have yy := y48a s l n (by omega) h0 h1 h2
          rw [q1, q2]
          refine ⟨W', i1, fun _ => i2 (.inr (by simp)), ?_⟩
          clear f0 q1 q2 i1 i2
          generalize chL [s4] _ = Z1 at *
          generalize chN [s4] _ _ = Z2 at *
          try simp only [cast1, Int.natCast_zero, Int.zero_add] at this
          try simp only [Int.natCast_zero, Int.zero_add] at yy
          try simp only [Int.natCast_zero]
          rw [lpB_eq]
          simp only [lp48] at ha yy this ⊢
          simp (maxSteps := 1000000) (disch := first | omega | decide | assumption | simp [scal]) [loadA_eq ia_76, lenA_sl lk_76, o_indexAddrS es_76, loadA_eq ia_71, loadA_eq ia_86, loadA_eq ia_24, ptrB, renB, ha, yy, addWr, ins, this]
theorem l75_4_1 (l : Int) (n : Nat) (W : List Nat) (hI : InvW l n W) (hn : n ≤ 1) : ∃ W', InvW (chL [s2, s3, s4] l) (chN [s2, s3, s4] l n) W' ∧ ((1 < 4 ∨ W ≠ []) → W' ≠ []) ∧
    lpB Try.prog LL ⟨75, 21, 12, none⟩ n75_3 n75_4 ⟨[(0, .func (.yield 0) #[] #[]), (2, pp 10), (3, pp 11), (7, sl 5 0 4 c), (8, iv 4), (9, iv 1)], [.loop (lp48 1 2 3), c1 ((n : Nat) : Int), c1 l, c1 0, bxP 5 4 c, .cells [sl 6 0 n1 d1, sl 7 0 n2 d2, sl 8 0 n3 d3, sl 9 0 n4 d4] 1 false true, .cells cs1 1 true own1, .cells cs2 1 true own2, .cells cs3 1 true own3, .cells cs4 1 true own4, .cells [.func (.func 38) #[] #[]] 1 false true, bxR x y], W⟩ =
      some (.exit 0, ⟨[], [.loop (lp48 1 2 3), c1 ((chN [s2, s3, s4] l n : Nat) : Int), c1 (chL [s2, s3, s4] l), c1 0, bxP 5 4 c, .cells [sl 6 0 n1 d1, sl 7 0 n2 d2, sl 8 0 n3 d3, sl 9 0 n4 d4] 1 false true, .cells cs1 1 true own1, .cells cs2 1 true own2, .cells cs3 1 true own3, .cells cs4 1 true own4, .cells [.func (.func 38) #[] #[]] 1 false true, bxR x y], W'⟩) := by
  have ha := ha2
  have f0 := fun l n W (h : InvW l n W) (hn : n ≤ 2) => l75_4_2 x y c n1 d1 n2 d2 n3 d3 n4 d4 s1 s2 s3 s4 ha1 ha2 ha3 ha4 l n W h hn
  clear ha1 ha2 ha3 ha4
  generalize hs : s2 = s at *
  rcases hI with ⟨rfl, rfl, rfl⟩ | ⟨rfl, rfl, rfl⟩ | ⟨rfl, rfl⟩ | rfl
  · by_cases h0 : s = 0
    · subst h0
      have q1 : chL (0 :: [s3, s4]) 0 = chL [s3, s4] 0 := by simp [chL]
      have q2 : chN (0 :: [s3, s4]) 0 0 = chN [s3, s4] 0 0 := by simp [chN]
      obtain ⟨W', i1, i2, this⟩ := f0 0 0 [0] (.inr (.inl ⟨rfl, rfl, rfl⟩)) (by omega)
      have yy := y48z 0 ((0 : Nat) : Int)
      rw [q1, q2]
      refine ⟨W', i1, fun _ => i2 (.inr (by simp)), ?_⟩
      clear f0 q1 q2 i1 i2
      generalize chL [s3, s4] _ = Z1 at *
      generalize chN [s3, s4] _ _ = Z2 at *
      try simp only [cast1, Int.natCast_zero, Int.zero_add] at this
      try simp only [Int.natCast_zero, Int.zero_add] at yy
      try simp only [Int.natCast_zero]
      rw [lpB_eq]
      simp only [lp48] at ha yy this ⊢
      simp (maxSteps := 1000000) (disch := first | omega | decide | assumption | simp [scal]) [loadA_eq ia_76, lenA_sl lk_76, o_indexAddrS es_76, loadA_eq ia_71, loadA_eq ia_86, loadA_eq ia_24, ptrB, renB, ha, yy, addWr, ins, this, Int.natCast_zero]
    · skip
      have q1 : chL (s :: [s3, s4]) 0 = chL [s3, s4] s := by simp [chL, h0]
      have q2 : chN (s :: [s3, s4]) 0 0 = chN [s3, s4] s 0 := by simp [chN, h0]
      obtain ⟨W', i1, i2, this⟩ := f0 s 0 [0, 2] (.inr (.inr (.inl ⟨rfl, rfl⟩))) (by omega)
      have yy := y48b s 0 0 (by omega) h0 rfl
      rw [q1, q2]
      refine ⟨W', i1, fun _ => i2 (.inr (by simp)), ?_⟩
      clear f0 q1 q2 i1 i2
      generalize chL [s3, s4] _ = Z1 at *
      generalize chN [s3, s4] _ _ = Z2 at *
      try simp only [cast1, Int.natCast_zero, Int.zero_add] at this
      try simp only [Int.natCast_zero, Int.zero_add] at yy
      try simp only [Int.natCast_zero]
      rw [lpB_eq]
      simp only [lp48] at ha yy this ⊢
      simp (maxSteps := 1000000) (disch := first | omega | decide | assumption | simp [scal]) [loadA_eq ia_76, lenA_sl lk_76, o_indexAddrS es_76, loadA_eq ia_71, loadA_eq ia_86, loadA_eq ia_24, ptrB, renB, ha, yy, addWr, ins, this, Int.natCast_zero]
  · by_cases h0 : s = 0
    · subst h0
      have q1 : chL (0 :: [s3, s4]) 0 = chL [s3, s4] 0 := by simp [chL]
      have q2 : chN (0 :: [s3, s4]) 0 0 = chN [s3, s4] 0 0 := by simp [chN]
      obtain ⟨W', i1, i2, this⟩ := f0 0 0 [0] (.inr (.inl ⟨rfl, rfl, rfl⟩)) (by omega)
      have yy := y48z 0 ((0 : Nat) : Int)
      rw [q1, q2]
      refine ⟨W', i1, fun _ => i2 (.inr (by simp)), ?_⟩
      clear f0 q1 q2 i1 i2
      generalize chL [s3, s4] _ = Z1 at *
      generalize chN [s3, s4] _ _ = Z2 at *
      try simp only [cast1, Int.natCast_zero, Int.zero_add] at this
      try simp only [Int.natCast_zero, Int.zero_add] at yy
      try simp only [Int.natCast_zero]
      rw [lpB_eq]
      simp only [lp48] at ha yy this ⊢
      simp (maxSteps := 1000000) (disch := first | omega | decide | assumption | simp [scal]) [loadA_eq ia_76, lenA_sl lk_76, o_indexAddrS es_76, loadA_eq ia_71, loadA_eq ia_86, loadA_eq ia_24, ptrB, renB, ha, yy, addWr, ins, this, Int.natCast_zero]
    · skip
      have q1 : chL (s :: [s3, s4]) 0 = chL [s3, s4] s := by simp [chL, h0]
      have q2 : chN (s :: [s3, s4]) 0 0 = chN [s3, s4] s 0 := by simp [chN, h0]
      obtain ⟨W', i1, i2, this⟩ := f0 s 0 [0, 2] (.inr (.inr (.inl ⟨rfl, rfl⟩))) (by omega)
      have yy := y48b s 0 0 (by omega) h0 rfl
      rw [q1, q2]
      refine ⟨W', i1, fun _ => i2 (.inr (by simp)), ?_⟩
      clear f0 q1 q2 i1 i2
      generalize chL [s3, s4] _ = Z1 at *
      generalize chN [s3, s4] _ _ = Z2 at *
      try simp only [cast1, Int.natCast_zero, Int.zero_add] at this
      try simp only [Int.natCast_zero, Int.zero_add] at yy
      try simp only [Int.natCast_zero]
      rw [lpB_eq]
      simp only [lp48] at ha yy this ⊢
      simp (maxSteps := 1000000) (disch := first | omega | decide | assumption | simp [scal]) [loadA_eq ia_76, lenA_sl lk_76, o_indexAddrS es_76, loadA_eq ia_71, loadA_eq ia_86, loadA_eq ia_24, ptrB, renB, ha, yy, addWr, ins, this, Int.natCast_zero]
  · by_cases h0 : s = 0
    · subst h0
      have q1 : chL (0 :: [s3, s4]) l = chL [s3, s4] l := by simp [chL]
      have q2 : chN (0 :: [s3, s4]) l 0 = chN [s3, s4] l 0 := by simp [chN]
      obtain ⟨W', i1, i2, this⟩ := f0 l 0 [0, 2] (.inr (.inr (.inl ⟨rfl, rfl⟩))) (by omega)
      have yy := y48z l ((0 : Nat) : Int)
      rw [q1, q2]
      refine ⟨W', i1, fun _ => i2 (.inr (by simp)), ?_⟩
      clear f0 q1 q2 i1 i2
      generalize chL [s3, s4] _ = Z1 at *
      generalize chN [s3, s4] _ _ = Z2 at *
      try simp only [cast1, Int.natCast_zero, Int.zero_add] at this
      try simp only [Int.natCast_zero, Int.zero_add] at yy
      try simp only [Int.natCast_zero]
      rw [lpB_eq]
      simp only [lp48] at ha yy this ⊢
      simp (maxSteps := 1000000) (disch := first | omega | decide | assumption | simp [scal]) [loadA_eq ia_76, lenA_sl lk_76, o_indexAddrS es_76, loadA_eq ia_71, loadA_eq ia_86, loadA_eq ia_24, ptrB, renB, ha, yy, addWr, ins, this, Int.natCast_zero]
    · by_cases h1 : l = 0
      · subst h1
        have q1 : chL (s :: [s3, s4]) 0 = chL [s3, s4] s := by simp [chL, h0]
        have q2 : chN (s :: [s3, s4]) 0 0 = chN [s3, s4] s 0 := by simp [chN, h0]
        obtain ⟨W', i1, i2, this⟩ := f0 s 0 [0, 2] (.inr (.inr (.inl ⟨rfl, rfl⟩))) (by omega)
        have yy := y48b s 0 0 (by omega) h0 rfl
        rw [q1, q2]
        refine ⟨W', i1, fun _ => i2 (.inr (by simp)), ?_⟩
        clear f0 q1 q2 i1 i2
        generalize chL [s3, s4] _ = Z1 at *
        generalize chN [s3, s4] _ _ = Z2 at *
        try simp only [cast1, Int.natCast_zero, Int.zero_add] at this
        try simp only [Int.natCast_zero, Int.zero_add] at yy
        try simp only [Int.natCast_zero]
        rw [lpB_eq]
        simp only [lp48] at ha yy this ⊢
        simp (maxSteps := 1000000) (disch := first | omega | decide | assumption | simp [scal]) [loadA_eq ia_76, lenA_sl lk_76, o_indexAddrS es_76, loadA_eq ia_71, loadA_eq ia_86, loadA_eq ia_24, ptrB, renB, ha, yy, addWr, ins, this, Int.natCast_zero]
      · by_cases h2 : s = l
        · skip
          have q1 : chL (s :: [s3, s4]) l = chL [s3, s4] s := by simp [chL, h0, h1, h2]
          have q2 : chN (s :: [s3, s4]) l 0 = chN [s3, s4] s 0 := by simp [chN, h0, h1, h2]
          obtain ⟨W', i1, i2, this⟩ := f0 s 0 [0, 2] (.inr (.inr (.inl ⟨rfl, rfl⟩))) (by omega)
          have yy := y48c s l 0 (by omega) h0 h1 h2
          rw [q1, q2]
          refine ⟨W', i1, fun _ => i2 (.inr (by simp)), ?_⟩
          clear f0 q1 q2 i1 i2
          generalize chL [s3, s4] _ = Z1 at *
          generalize chN [s3, s4] _ _ = Z2 at *
          try simp only [cast1, Int.natCast_zero, Int.zero_add] at this
          try simp only [Int.natCast_zero, Int.zero_add] at yy
          try simp only [Int.natCast_zero]
          rw [lpB_eq]
          simp only [lp48] at ha yy this ⊢
          simp (maxSteps := 1000000) (disch := first | omega | decide | assumption | simp [scal]) [loadA_eq ia_76, lenA_sl lk_76, o_indexAddrS es_76, loadA_eq ia_71, loadA_eq ia_86, loadA_eq ia_24, ptrB, renB, ha, yy, addWr, ins, this, Int.natCast_zero]
        · skip
          have q1 : chL (s :: [s3, s4]) l = chL [s3, s4] s := by simp [chL, h0, h1, h2]
          have q2 : chN (s :: [s3, s4]) l 0 = chN [s3, s4] s (0 + 1) := by simp [chN, h0, h1, h2]
          obtain ⟨W', i1, i2, this⟩ := f0 s (0 + 1) [0, 2, 1] (.inr (.inr (.inr rfl))) (by omega)
          have yy := y48a s l 0 (by omega) h0 h1 h2
          rw [q1, q2]
          refine ⟨W', i1, fun _ => i2 (.inr (by simp)), ?_⟩
          clear f0 q1 q2 i1 i2
          generalize chL [s3, s4] _ = Z1 at *
          generalize chN [s3, s4] _ _ = Z2 at *
          try simp only [cast1, Int.natCast_zero, Int.zero_add] at this
          try simp only [Int.natCast_zero, Int.zero_add] at yy
          try simp only [Int.natCast_zero]
          rw [lpB_eq]
          simp only [lp48] at ha yy this ⊢
          simp (maxSteps := 1000000) (disch := first | omega | decide | assumption | simp [scal]) [loadA_eq ia_76, lenA_sl lk_76, o_indexAddrS es_76, loadA_eq ia_71, loadA_eq ia_86, loadA_eq ia_24, ptrB, renB, ha, yy, addWr, ins, this, Int.natCast_zero]
  · by_cases h0 : s = 0
    · subst h0
      have q1 : chL (0 :: [s3, s4]) l = chL [s3, s4] l := by simp [chL]
      have q2 : chN (0 :: [s3, s4]) l n = chN [s3, s4] l n := by simp [chN]
      obtain ⟨W', i1, i2, this⟩ := f0 l n [0, 2, 1] (.inr (.inr (.inr rfl))) (by omega)
      have yy := y48z l ((n : Nat) : Int)
      rw [q1, q2]
      refine ⟨W', i1, fun _ => i2 (.inr (by simp)), ?_⟩
      clear f0 q1 q2 i1 i2
      generalize chL [s3, s4] _ = Z1 at *
      generalize chN [s3, s4] _ _ = Z2 at *
      try simp only [cast1, Int.natCast_zero, Int.zero_add] at this
      try simp only [Int.natCast_zero, Int.zero_add] at yy
      try simp only [Int.natCast_zero]
      rw [lpB_eq]
      simp only [lp48] at ha yy this ⊢
      simp (maxSteps := 1000000) (disch := first | omega | decide | assumption | simp [scal]) [loadA_eq ia_76, lenA_sl lk_76, o_indexAddrS es_76, loadA_eq ia_71, loadA_eq ia_86, loadA_eq ia_24, ptrB, renB, ha, yy, addWr, ins, this]
    · by_cases h1 : l = 0
      · subst h1
        have q1 : chL (s :: [s3, s4]) 0 = chL [s3, s4] s := by simp [chL, h0]
        have q2 : chN (s :: [s3, s4]) 0 n = chN [s3, s4] s n := by simp [chN, h0]
        obtain ⟨W', i1, i2, this⟩ := f0 s n [0, 2, 1] (.inr (.inr (.inr rfl))) (by omega)
        have yy := y48b s 0 n (by omega) h0 rfl
        rw [q1, q2]
        refine ⟨W', i1, fun _ => i2 (.inr (by simp)), ?_⟩
        clear f0 q1 q2 i1 i2
        generalize chL [s3, s4] _ = Z1 at *
        generalize chN [s3, s4] _ _ = Z2 at *
        try simp only [cast1, Int.natCast_zero, Int.zero_add] at this
        try simp only [Int.natCast_zero, Int.zero_add] at yy
        try simp only [Int.natCast_zero]
        rw [lpB_eq]
        simp only [lp48] at ha yy this ⊢
        simp (maxSteps := 1000000) (disch := first | omega | decide | assumption | simp [scal]) [loadA_eq ia_76, lenA_sl lk_76, o_indexAddrS es_76, loadA_eq ia_71, loadA_eq ia_86, loadA_eq ia_24, ptrB, renB, ha, yy, addWr, ins, this]
      · by_cases h2 : s = l
        · skip
          have q1 : chL (s :: [s3, s4]) l = chL [s3, s4] s := by simp [chL, h0, h1, h2]
          have q2 : chN (s :: [s3, s4]) l n = chN [s3, s4] s n := by simp [chN, h0, h1, h2]
          obtain ⟨W', i1, i2, this⟩ := f0 s n [0, 2, 1] (.inr (.inr (.inr rfl))) (by omega)
          have yy := y48c s l n (by omega) h0 h1 h2
          rw [q1, q2]
          refine ⟨W', i1, fun _ => i2 (.inr (by simp)), ?_⟩
          clear f0 q1 q2 i1 i2
          generalize chL [s3, s4] _ = Z1 at *
          generalize chN [s3, s4] _ _ = Z2 at *
          try simp only [cast1, Int.natCast_zero, Int.zero_add] at this
          try simp only [Int.natCast_zero, Int.zero_add] at yy
          try simp only [Int.natCast_zero]
          rw [lpB_eq]
          simp only [lp48] at ha yy this ⊢
          simp (maxSteps := 1000000) (disch := first | omega | decide | assumption | simp [scal]) [loadA_eq ia_76, lenA_sl lk_76, o_indexAddrS es_76, loadA_eq ia_71, loadA_eq ia_86, loadA_eq ia_24, ptrB, renB, ha, yy, addWr, ins, this]
        · skip
          have q1 : chL (s :: [s3, s4]) l = chL [s3, s4] s := by simp [chL, h0, h1, h2]
          have q2 : chN (s :: [s3, s4]) l n = chN [s3, s4] s (n + 1) := by simp [chN, h0, h1, h2]
          obtain ⟨W', i1, i2, this⟩ := f0 s (n + 1) [0, 2, 1] (.inr (.inr (.inr rfl))) (by omega)
          have yy := y48a s l n (by omega) h0 h1 h2
          rw [q1, q2]
          refine ⟨W', i1, fun _ => i2 (.inr (by simp)), ?_⟩
          clear f0 q1 q2 i1 i2
          generalize chL [s3, s4] _ = Z1 at *
          generalize chN [s3, s4] _ _ = Z2 at *
          try simp only [cast1, Int.natCast_zero, Int.zero_add] at this
          try simp only [Int.natCast_zero, Int.zero_add] at yy
          try simp only [Int.natCast_zero]
          rw [lpB_eq]
          simp only [lp48] at ha yy this ⊢
          simp (maxSteps := 1000000) (disch := first | omega | decide | assumption | simp [scal]) [loadA_eq ia_76, lenA_sl lk_76, o_indexAddrS es_76, loadA_eq ia_71, loadA_eq ia_86, loadA_eq ia_24, ptrB, renB, ha, yy, addWr, ins, this]
theorem l75_4_0 (l : Int) (n : Nat) (W : List Nat) (hI : InvW l n W) (hn : n ≤ 0) : ∃ W', InvW (chL [s1, s2, s3, s4] l) (chN [s1, s2, s3, s4] l n) W' ∧ ((0 < 4 ∨ W ≠ []) → W' ≠ []) ∧
    lpB Try.prog LL ⟨75, 21, 12, none⟩ n75_3 n75_4 ⟨[(0, .func (.yield 0) #[] #[]), (2, pp 10), (3, pp 11), (7, sl 5 0 4 c), (8, iv 4), (9, iv 0)], [.loop (lp48 1 2 3), c1 ((n : Nat) : Int), c1 l, c1 0, bxP 5 4 c, .cells [sl 6 0 n1 d1, sl 7 0 n2 d2, sl 8 0 n3 d3, sl 9 0 n4 d4] 1 false true, .cells cs1 1 true own1, .cells cs2 1 true own2, .cells cs3 1 true own3, .cells cs4 1 true own4, .cells [.func (.func 38) #[] #[]] 1 false true, bxR x y], W⟩ =
      some (.exit 0, ⟨[], [.loop (lp48 1 2 3), c1 ((chN [s1, s2, s3, s4] l n : Nat) : Int), c1 (chL [s1, s2, s3, s4] l), c1 0, bxP 5 4 c, .cells [sl 6 0 n1 d1, sl 7 0 n2 d2, sl 8 0 n3 d3, sl 9 0 n4 d4] 1 false true, .cells cs1 1 true own1, .cells cs2 1 true own2, .cells cs3 1 true own3, .cells cs4 1 true own4, .cells [.func (.func 38) #[] #[]] 1 false true, bxR x y], W'⟩) := by
  have ha := ha1
  have f0 := fun l n W (h : InvW l n W) (hn : n ≤ 1) => l75_4_1 x y c n1 d1 n2 d2 n3 d3 n4 d4 s1 s2 s3 s4 ha1 ha2 ha3 ha4 l n W h hn
  clear ha1 ha2 ha3 ha4
  generalize hs : s1 = s at *
  rcases hI with ⟨rfl, rfl, rfl⟩ | ⟨rfl, rfl, rfl⟩ | ⟨rfl, rfl⟩ | rfl
  · by_cases h0 : s = 0
    · subst h0
      have q1 : chL (0 :: [s2, s3, s4]) 0 = chL [s2, s3, s4] 0 := by simp [chL]
      have q2 : chN (0 :: [s2, s3, s4]) 0 0 = chN [s2, s3, s4] 0 0 := by simp [chN]
      obtain ⟨W', i1, i2, this⟩ := f0 0 0 [0] (.inr (.inl ⟨rfl, rfl, rfl⟩)) (by omega)
      have yy := y48z 0 ((0 : Nat) : Int)
      rw [q1, q2]
      refine ⟨W', i1, fun _ => i2 (.inr (by simp)), ?_⟩
      clear f0 q1 q2 i1 i2
      generalize chL [s2, s3, s4] _ = Z1 at *
      generalize chN [s2, s3, s4] _ _ = Z2 at *
      try simp only [cast1, Int.natCast_zero, Int.zero_add] at this
      try simp only [Int.natCast_zero, Int.zero_add] at yy
      try simp only [Int.natCast_zero]
      rw [lpB_eq]
      simp only [lp48] at ha yy this ⊢
      simp (maxSteps := 1000000) (disch := first | omega | decide | assumption | simp [scal]) [loadA_eq ia_76, lenA_sl lk_76, o_indexAddrS es_76, loadA_eq ia_71, loadA_eq ia_86, loadA_eq ia_24, ptrB, renB, ha, yy, addWr, ins, this, Int.natCast_zero]
    · skip
      have q1 : chL (s :: [s2, s3, s4]) 0 = chL [s2, s3, s4] s := by simp [chL, h0]
      have q2 : chN (s :: [s2, s3, s4]) 0 0 = chN [s2, s3, s4] s 0 := by simp [chN, h0]
      obtain ⟨W', i1, i2, this⟩ := f0 s 0 [0, 2] (.inr (.inr (.inl ⟨rfl, rfl⟩))) (by omega)
      have yy := y48b s 0 0 (by omega) h0 rfl
      rw [q1, q2]
      refine ⟨W', i1, fun _ => i2 (.inr (by simp)), ?_⟩
      clear f0 q1 q2 i1 i2
      generalize chL [s2, s3, s4] _ = Z1 at *
      generalize chN [s2, s3, s4] _ _ = Z2 at *
      try simp only [cast1, Int.natCast_zero, Int.zero_add] at this
      try simp only [Int.natCast_zero, Int.zero_add] at yy
      try simp only [Int.natCast_zero]
      rw [lpB_eq]
      simp only [lp48] at ha yy this ⊢
      simp (maxSteps := 1000000) (disch := first | omega | decide | assumption | simp [scal]) [loadA_eq ia_76, lenA_sl lk_76, o_indexAddrS es_76, loadA_eq ia_71, loadA_eq ia_86, loadA_eq ia_24, ptrB, renB, ha, yy, addWr, ins, this, Int.natCast_zero]
  · by_cases h0 : s = 0
    · subst h0
      have q1 : chL (0 :: [s2, s3, s4]) 0 = chL [s2, s3, s4] 0 := by simp [chL]
      have q2 : chN (0 :: [s2, s3, s4]) 0 0 = chN [s2, s3, s4] 0 0 := by simp [chN]
      obtain ⟨W', i1, i2, this⟩ := f0 0 0 [0] (.inr (.inl ⟨rfl, rfl, rfl⟩)) (by omega)
      have yy := y48z 0 ((0 : Nat) : Int)
      rw [q1, q2]
      refine ⟨W', i1, fun _ => i2 (.inr (by simp)), ?_⟩
      clear f0 q1 q2 i1 i2
      generalize chL [s2, s3, s4] _ = Z1 at *
      generalize chN [s2, s3, s4] _ _ = Z2 at *
      try simp only [cast1, Int.natCast_zero, Int.zero_add] at this
      try simp only [Int.natCast_zero, Int.zero_add] at yy
      try simp only [Int.natCast_zero]
      rw [lpB_eq]
      simp only [lp48] at ha yy this ⊢
      simp (maxSteps := 1000000) (disch := first | omega | decide | assumption | simp [scal]) [loadA_eq ia_76, lenA_sl lk_76, o_indexAddrS es_76, loadA_eq ia_71, loadA_eq ia_86, loadA_eq ia_24, ptrB, renB, ha, yy, addWr, ins, this, Int.natCast_zero]
    · skip
      have q1 : chL (s :: [s2, s3, s4]) 0 = chL [s2, s3, s4] s := by simp [chL, h0]
      have q2 : chN (s :: [s2, s3, s4]) 0 0 = chN [s2, s3, s4] s 0 := by simp [chN, h0]
      obtain ⟨W', i1, i2, this⟩ := f0 s 0 [0, 2] (.inr (.inr (.inl ⟨rfl, rfl⟩))) (by omega)
      have yy := y48b s 0 0 (by omega) h0 rfl
      rw [q1, q2]
      refine ⟨W', i1, fun _ => i2 (.inr (by simp)), ?_⟩
      clear f0 q1 q2 i1 i2
      generalize chL [s2, s3, s4] _ = Z1 at *
      generalize chN [s2, s3, s4] _ _ = Z2 at *
      try simp only [cast1, Int.natCast_zero, Int.zero_add] at this
      try simp only [Int.natCast_zero, Int.zero_add] at yy
      try simp only [Int.natCast_zero]
      rw [lpB_eq]
      simp only [lp48] at ha yy this ⊢
      simp (maxSteps := 1000000) (disch := first | omega | decide | assumption | simp [scal]) [loadA_eq ia_76, lenA_sl lk_76, o_indexAddrS es_76, loadA_eq ia_71, loadA_eq ia_86, loadA_eq ia_24, ptrB, renB, ha, yy, addWr, ins, this, Int.natCast_zero]
  · by_cases h0 : s = 0
    · subst h0
      have q1 : chL (0 :: [s2, s3, s4]) l = chL [s2, s3, s4] l := by simp [chL]
      have q2 : chN (0 :: [s2, s3, s4]) l 0 = chN [s2, s3, s4] l 0 := by simp [chN]
      obtain ⟨W', i1, i2, this⟩ := f0 l 0 [0, 2] (.inr (.inr (.inl ⟨rfl, rfl⟩))) (by omega)
      have yy := y48z l ((0 : Nat) : Int)
      rw [q1, q2]
      refine ⟨W', i1, fun _ => i2 (.inr (by simp)), ?_⟩
      clear f0 q1 q2 i1 i2
      generalize chL [s2, s3, s4] _ = Z1 at *
      generalize chN [s2, s3, s4] _ _ = Z2 at *
      try simp only [cast1, Int.natCast_zero, Int.zero_add] at this
      try simp only [Int.natCast_zero, Int.zero_add] at yy
      try simp only [Int.natCast_zero]
      rw [lpB_eq]
      simp only [lp48] at ha yy this ⊢
      simp (maxSteps := 1000000) (disch := first | omega | decide | assumption | simp [scal]) [loadA_eq ia_76, lenA_sl lk_76, o_indexAddrS es_76, loadA_eq ia_71, loadA_eq ia_86, loadA_eq ia_24, ptrB, renB, ha, yy, addWr, ins, this, Int.natCast_zero]
    · by_cases h1 : l = 0
      · subst h1
        have q1 : chL (s :: [s2, s3, s4]) 0 = chL [s2, s3, s4] s := by simp [chL, h0]
        have q2 : chN (s :: [s2, s3, s4]) 0 0 = chN [s2, s3, s4] s 0 := by simp [chN, h0]
        obtain ⟨W', i1, i2, this⟩ := f0 s 0 [0, 2] (.inr (.inr (.inl ⟨rfl, rfl⟩))) (by omega)
        have yy := y48b s 0 0 (by omega) h0 rfl
        rw [q1, q2]
        refine ⟨W', i1, fun _ => i2 (.inr (by simp)), ?_⟩
        clear f0 q1 q2 i1 i2
        generalize chL [s2, s3, s4] _ = Z1 at *
        generalize chN [s2, s3, s4] _ _ = Z2 at *
        try simp only [cast1, Int.natCast_zero, Int.zero_add] at this
        try simp only [Int.natCast_zero, Int.zero_add] at yy
        try simp only [Int.natCast_zero]
        rw [lpB_eq]
        simp only [lp48] at ha yy this ⊢
        simp (maxSteps := 1000000) (disch := first | omega | decide | assumption | simp [scal]) [loadA_eq ia_76, lenA_sl lk_76, o_indexAddrS es_76, loadA_eq ia_71, loadA_eq ia_86, loadA_eq ia_24, ptrB, renB, ha, yy, addWr, ins, this, Int.natCast_zero]
      · by_cases h2 : s = l
        · skip
          have q1 : chL (s :: [s2, s3, s4]) l = chL [s2, s3, s4] s := by simp [chL, h0, h1, h2]
          have q2 : chN (s :: [s2, s3, s4]) l 0 = chN [s2, s3, s4] s 0 := by simp [chN, h0, h1, h2]
          obtain ⟨W', i1, i2, this⟩ := f0 s 0 [0, 2] (.inr (.inr (.inl ⟨rfl, rfl⟩))) (by omega)
          have yy := y48c s l 0 (by omega) h0 h1 h2
          rw [q1, q2]
          refine ⟨W', i1, fun _ => i2 (.inr (by simp)), ?_⟩
          clear f0 q1 q2 i1 i2
          generalize chL [s2, s3, s4] _ = Z1 at *
          generalize chN [s2, s3, s4] _ _ = Z2 at *
          try simp only [cast1, Int.natCast_zero, Int.zero_add] at this
          try simp only [Int.natCast_zero, Int.zero_add] at yy
          try simp only [Int.natCast_zero]
          rw [lpB_eq]
          simp only [lp48] at ha yy this ⊢
          simp (maxSteps := 1000000) (disch := first | omega | decide | assumption | simp [scal]) [loadA_eq ia_76, lenA_sl lk_76, o_indexAddrS es_76, loadA_eq ia_71, loadA_eq ia_86, loadA_eq ia_24, ptrB, renB, ha, yy, addWr, ins, this, Int.natCast_zero]
        · skip
          have q1 : chL (s :: [s2, s3, s4]) l = chL [s2, s3, s4] s := by simp [chL, h0, h1, h2]
          have q2 : chN (s :: [s2, s3, s4]) l 0 = chN [s2, s3, s4] s (0 + 1) := by simp [chN, h0, h1, h2]
          obtain ⟨W', i1, i2, this⟩ := f0 s (0 + 1) [0, 2, 1] (.inr (.inr (.inr rfl))) (by omega)
          have yy := y48a s l 0 (by omega) h0 h1 h2
          rw [q1, q2]
          refine ⟨W', i1, fun _ => i2 (.inr (by simp)), ?_⟩
          clear f0 q1 q2 i1 i2
          generalize chL [s2, s3, s4] _ = Z1 at *
          generalize chN [s2, s3, s4] _ _ = Z2 at *
          try simp only [cast1, Int.natCast_zero, Int.zero_add] at this
          try simp only [Int.natCast_zero, Int.zero_add] at yy
          try simp only [Int.natCast_zero]
          rw [lpB_eq]
          simp only [lp48] at ha yy this ⊢
          simp (maxSteps := 1000000) (disch := first | omega | decide | assumption | simp [scal]) [loadA_eq ia_76, lenA_sl lk_76, o_indexAddrS es_76, loadA_eq ia_71, loadA_eq ia_86, loadA_eq ia_24, ptrB, renB, ha, yy, addWr, ins, this, Int.natCast_zero]
  · by_cases h0 : s = 0
    · subst h0
      have q1 : chL (0 :: [s2, s3, s4]) l = chL [s2, s3, s4] l := by simp [chL]
      have q2 : chN (0 :: [s2, s3, s4]) l n = chN [s2, s3, s4] l n := by simp [chN]
      obtain ⟨W', i1, i2, this⟩ := f0 l n [0, 2, 1] (.inr (.inr (.inr rfl))) (by omega)
      have yy := y48z l ((n : Nat) : Int)
      rw [q1, q2]
      refine ⟨W', i1, fun _ => i2 (.inr (by simp)), ?_⟩
      clear f0 q1 q2 i1 i2
      generalize chL [s2, s3, s4] _ = Z1 at *
      generalize chN [s2, s3, s4] _ _ = Z2 at *
      try simp only [cast1, Int.natCast_zero, Int.zero_add] at this
      try simp only [Int.natCast_zero, Int.zero_add] at yy
      try simp only [Int.natCast_zero]
      rw [lpB_eq]
      simp only [lp48] at ha yy this ⊢
      simp (maxSteps := 1000000) (disch := first | omega | decide | assumption | simp [scal]) [loadA_eq ia_76, lenA_sl lk_76, o_indexAddrS es_76, loadA_eq ia_71, loadA_eq ia_86, loadA_eq ia_24, ptrB, renB, ha, yy, addWr, ins, this]
    · by_cases h1 : l = 0
      · subst h1
        have q1 : chL (s :: [s2, s3, s4]) 0 = chL [s2, s3, s4] s := by simp [chL, h0]
        have q2 : chN (s :: [s2, s3, s4]) 0 n = chN [s2, s3, s4] s n := by simp [chN, h0]
        obtain ⟨W', i1, i2, this⟩ := f0 s n [0, 2, 1] (.inr (.inr (.inr rfl))) (by omega)
        have yy := y48b s 0 n (by omega) h0 rfl
        rw [q1, q2]
        refine ⟨W', i1, fun _ => i2 (.inr (by simp)), ?_⟩
        clear f0 q1 q2 i1 i2
        generalize chL [s2, s3, s4] _ = Z1 at *
        generalize chN [s2, s3, s4] _ _ = Z2 at *
        try simp only [cast1, Int.natCast_zero, Int.zero_add] at this
        try simp only [Int.natCast_zero, Int.zero_add] at yy
        try simp only [Int.natCast_zero]
        rw [lpB_eq]
        simp only [lp48] at ha yy this ⊢
        simp (maxSteps := 1000000) (disch := first | omega | decide | assumption | simp [scal]) [loadA_eq ia_76, lenA_sl lk_76, o_indexAddrS es_76, loadA_eq ia_71, loadA_eq ia_86, loadA_eq ia_24, ptrB, renB, ha, yy, addWr, ins, this]
      · by_cases h2 : s = l
        · skip
          have q1 : chL (s :: [s2, s3, s4]) l = chL [s2, s3, s4] s := by simp [chL, h0, h1, h2]
          have q2 : chN (s :: [s2, s3, s4]) l n = chN [s2, s3, s4] s n := by simp [chN, h0, h1, h2]
          obtain ⟨W', i1, i2, this⟩ := f0 s n [0, 2, 1] (.inr (.inr (.inr rfl))) (by omega)
          have yy := y48c s l n (by omega) h0 h1 h2
          rw [q1, q2]
          refine ⟨W', i1, fun _ => i2 (.inr (by simp)), ?_⟩
          clear f0 q1 q2 i1 i2
          generalize chL [s2, s3, s4] _ = Z1 at *
          generalize chN [s2, s3, s4] _ _ = Z2 at *
          try simp only [cast1, Int.natCast_zero, Int.zero_add] at this
          try simp only [Int.natCast_zero, Int.zero_add] at yy
          try simp only [Int.natCast_zero]
          rw [lpB_eq]
          simp only [lp48] at ha yy this ⊢
          simp (maxSteps := 1000000) (disch := first | omega | decide | assumption | simp [scal]) [loadA_eq ia_76, lenA_sl lk_76, o_indexAddrS es_76, loadA_eq ia_71, loadA_eq ia_86, loadA_eq ia_24, ptrB, renB, ha, yy, addWr, ins, this]
        · skip
          have q1 : chL (s :: [s2, s3, s4]) l = chL [s2, s3, s4] s := by simp [chL, h0, h1, h2]
          have q2 : chN (s :: [s2, s3, s4]) l n = chN [s2, s3, s4] s (n + 1) := by simp [chN, h0, h1, h2]
          obtain ⟨W', i1, i2, this⟩ := f0 s (n + 1) [0, 2, 1] (.inr (.inr (.inr rfl))) (by omega)
          have yy := y48a s l n (by omega) h0 h1 h2
          rw [q1, q2]
          refine ⟨W', i1, fun _ => i2 (.inr (by simp)), ?_⟩
          clear f0 q1 q2 i1 i2
          generalize chL [s2, s3, s4] _ = Z1 at *
          generalize chN [s2, s3, s4] _ _ = Z2 at *
          try simp only [cast1, Int.natCast_zero, Int.zero_add] at this
          try simp only [Int.natCast_zero, Int.zero_add] at yy
          try simp only [Int.natCast_zero]
          rw [lpB_eq]
          simp only [lp48] at ha yy this ⊢
          simp (maxSteps := 1000000) (disch := first | omega | decide | assumption | simp [scal]) [loadA_eq ia_76, lenA_sl lk_76, o_indexAddrS es_76, loadA_eq ia_71, loadA_eq ia_86, loadA_eq ia_24, ptrB, renB, ha, yy, addWr, ins, this]
theorem c75_4 : ∃ ws, ((ws = [(0, .loop (lp48 1 2 3))] ∧ chL [s1, s2, s3, s4] 0 = 0 ∧ chN [s1, s2, s3, s4] 0 0 = 0) ∨ (ws = [(0, .loop (lp48 1 2 3)), (2, c1 (chL [s1, s2, s3, s4] 0))] ∧ chN [s1, s2, s3, s4] 0 0 = 0) ∨ ws = [(0, .loop (lp48 1 2 3)), (2, c1 (chL [s1, s2, s3, s4] 0)), (1, c1 ((chN [s1, s2, s3, s4] 0 0 : Nat) : Int))]) ∧
    LL.run 75 [.func (.yield 0) #[] #[], pp 4, pp 10, pp 11] [.loop (lp48 1 2 3), c1 0, c1 0, c1 0, bxP 5 4 c, .cells [sl 6 0 n1 d1, sl 7 0 n2 d2, sl 8 0 n3 d3, sl 9 0 n4 d4] 1 false true, .cells cs1 1 true own1, .cells cs2 1 true own2, .cells cs3 1 true own3, .cells cs4 1 true own4, .cells [.func (.func 38) #[] #[]] 1 false true, bxR x y] = some ⟨.tuple #[], [], ws⟩ := by
  obtain ⟨W', i1, i2, this⟩ := l75_4_0 x y c n1 d1 n2 d2 n3 d3 n4 d4 s1 s2 s3 s4 ha1 ha2 ha3 ha4 0 0 [] (.inl ⟨rfl, rfl, rfl⟩) (Nat.le_refl _)
  have i2 := i2 (.inl (by omega))
  simp only [Int.natCast_zero] at this
  clear ha1 ha2 ha3 ha4
  generalize chL [s1, s2, s3, s4] 0 = Z1 at *
  generalize chN [s1, s2, s3, s4] 0 0 = Z2 at *
  rcases i1 with ⟨rfl, rfl, rfl⟩ | ⟨rfl, rfl, rfl⟩ | ⟨rfl, rfl⟩ | rfl
  · exact absurd rfl i2
  · refine ⟨_, .inl ⟨rfl, rfl, rfl⟩, go (by decide) ?_⟩
    rw [run75 _ _ _ (by simp)]
    simp only [lp48] at this ⊢
    simp (maxSteps := 1000000) (disch := first | omega | decide | assumption | simp [scal]) [loadA_eq ia_76, lenA_sl lk_76, o_indexAddrS es_76, loadA_eq ia_71, loadA_eq ia_86, loadA_eq ia_24, ptrB, renB, this, endS_normal]
  · refine ⟨_, .inr (.inl ⟨rfl, rfl⟩), go (by decide) ?_⟩
    rw [run75 _ _ _ (by simp)]
    simp only [lp48] at this ⊢
    simp (maxSteps := 1000000) (disch := first | omega | decide | assumption | simp [scal]) [loadA_eq ia_76, lenA_sl lk_76, o_indexAddrS es_76, loadA_eq ia_71, loadA_eq ia_86, loadA_eq ia_24, ptrB, renB, this, endS_normal]
  · refine ⟨_, .inr (.inr rfl), go (by decide) ?_⟩
    rw [run75 _ _ _ (by simp)]
    simp only [lp48] at this ⊢
    simp (maxSteps := 1000000) (disch := first | omega | decide | assumption | simp [scal]) [loadA_eq ia_76, lenA_sl lk_76, o_indexAddrS es_76, loadA_eq ia_71, loadA_eq ia_86, loadA_eq ia_24, ptrB, renB, this, endS_normal]
theorem h75_4 : ∃ W, (W = [11] ∨ W = [11, 9] ∨ W = [11, 9, 10]) ∧
    callH LL 75 [.func (.yield 11) #[] #[], pp 0, pp 6, pp 7] [bxP 1 4 c, .cells [sl 2 0 n1 d1, sl 3 0 n2 d2, sl 4 0 n3 d3, sl 5 0 n4 d4] 1 false true, .cells cs1 1 true own1, .cells cs2 1 true own2, .cells cs3 1 true own3, .cells cs4 1 true own4, .cells [.func (.func 38) #[] #[]] 1 false true, bxR x y, c1 0, c1 0, c1 0, .loop (lp48 10 9 8)] = some ⟨.tuple #[], [bxP 1 4 c, .cells [sl 2 0 n1 d1, sl 3 0 n2 d2, sl 4 0 n3 d3, sl 5 0 n4 d4] 1 false true, .cells cs1 1 true own1, .cells cs2 1 true own2, .cells cs3 1 true own3, .cells cs4 1 true own4, .cells [.func (.func 38) #[] #[]] 1 false true, bxR x y, c1 0, c1 (chL [s1, s2, s3, s4] 0), c1 ((chN [s1, s2, s3, s4] 0 0 : Nat) : Int), .loop (lp48 10 9 8)], [11, 10, 9, 8, 0, 1, 2, 3, 4, 5, 6, 7], W⟩ := by
  obtain ⟨ws, hw, e⟩ := c75_4 x y c n1 d1 n2 d2 n3 d3 n4 d4 s1 s2 s3 s4 ha1 ha2 ha3 ha4
  clear ha1 ha2 ha3 ha4
  have hm : ∀ q : Nat, 30 < q → reach [bxP 1 4 c, .cells [sl 2 0 n1 d1, sl 3 0 n2 d2, sl 4 0 n3 d3, sl 5 0 n4 d4] 1 false true, .cells cs1 1 true own1, .cells cs2 1 true own2, .cells cs3 1 true own3, .cells cs4 1 true own4, .cells [.func (.func 38) #[] #[]] 1 false true, bxR x y, c1 0, c1 0, c1 0, .loop (lp48 10 9 8)] 0 q [11, 0, 6, 7] [] = [11, 10, 9, 8, 0, 1, 2, 3, 4, 5, 6, 7] := by
    intro q hq
    obtain ⟨q, rfl⟩ : ∃ j, q = j + 30 := ⟨q - 30, by omega⟩
    simp [reach_cons, reachC_t, reachC_f, reach_nil, rootsB, GE.mem, nblt, nbeq, ptrB, lp48, ptrT, ptrV_ptr, ptrV_sl, ptrV_int, dep]
  have hpp : ([.func (.yield 11) #[] #[], pp 0, pp 6, pp 7] : List Value).flatMap (ptrV dep) = [11, 0, 6, 7] := rfl
  generalize chL [s1, s2, s3, s4] 0 = Z1 at *
  generalize chN [s1, s2, s3, s4] 0 0 = Z2 at *
  rcases hw with ⟨rfl, rfl, rfl⟩ | ⟨rfl, rfl⟩ | rfl
  · refine ⟨_, .inl rfl, callH_of (by intro _; first | trivial | rfl) ?_ (by simp)⟩
    unfold callH0
    simp only [hpp, hm reachN (by decide)]
    simp only [lp48] at e ⊢
    simp [optAll, renV_func, renFn, renL, renV_ptr, dep, idx, nbeq, renB, renT, renL_eq, renV_int, renV_sl, e, mergeB, renV_tuple, nblt]
  · refine ⟨_, .inr (.inl rfl), callH_of (by intro _; first | trivial | rfl) ?_ (by simp)⟩
    unfold callH0
    simp only [hpp, hm reachN (by decide)]
    simp only [lp48] at e ⊢
    simp [optAll, renV_func, renFn, renL, renV_ptr, dep, idx, nbeq, renB, renT, renL_eq, renV_int, renV_sl, e, mergeB, renV_tuple, nblt]
  · refine ⟨_, .inr (.inr rfl), callH_of (by intro _; first | trivial | rfl) ?_ (by simp)⟩
    unfold callH0
    simp only [hpp, hm reachN (by decide)]
    simp only [lp48] at e ⊢
    simp [optAll, renV_func, renFn, renL, renV_ptr, dep, idx, nbeq, renB, renT, renL_eq, renV_int, renV_sl, e, mergeB, renV_tuple, nblt]
theorem r48_4 : LL.run 48 [.func (.func 75) #[] #[pp 0, pp 6, pp 7]] [bxP 1 4 c, .cells [sl 2 0 n1 d1, sl 3 0 n2 d2, sl 4 0 n3 d3, sl 5 0 n4 d4] 1 false true, .cells cs1 1 true own1, .cells cs2 1 true own2, .cells cs3 1 true own3, .cells cs4 1 true own4, .cells [.func (.func 38) #[] #[]] 1 false true, bxR x y] = some ⟨iv (chN [s1, s2, s3, s4] 0 0 : Nat), [], []⟩ := by
  obtain ⟨W, hW, e⟩ := h75_4 x y c n1 d1 n2 d2 n3 d3 n4 d4 s1 s2 s3 s4 ha1 ha2 ha3 ha4
  clear ha1 ha2 ha3 ha4
  generalize chL [s1, s2, s3, s4] 0 = Z1 at *
  generalize chN [s1, s2, s3, s4] 0 0 = Z2 at *
  refine go (by decide) ?_
  simp only [lp48] at e
  rw [run48 _ _ _ (by simp)]
  simp (maxSteps := 1000000) (disch := first | omega | decide | assumption | simp [scal]) [za_3, sz_3, loadA_eq ia_3, want_some q48_21g3]
  rw [range_step n48_10e n48_10k rfl]
  rcases hW with rfl | rfl | rfl
  all_goals
    simp (maxSteps := 1000000) (disch := first | omega | decide | assumption | simp [scal]) [za_3, sz_3, loadA_eq ia_3, want_some q48_21g3, e]
    rw [rangeE_ready rfl rfl rfl]
    simp (maxSteps := 1000000) (disch := first | omega | decide | assumption | simp [scal]) [za_3, sz_3, loadA_eq ia_3, want_some q48_21g3, addWr]
end
section
variable (c d1 d2 d3 d4 : Nat) {cs1 cs2 cs3 cs4 : List Value} {own1 own2 own3 own4 : Bool} {p1 p2 p3 p4 : List Int} (hp1 : PoC cs1 p1) (h01 : 0 < p1.length) (h61 : p1.length ≤ 60) (hp2 : PoC cs2 p2) (h02 : 0 < p2.length) (h62 : p2.length ≤ 60) (hp3 : PoC cs3 p3) (h03 : 0 < p3.length) (h63 : p3.length ≤ 60) (hp4 : PoC cs4 p4) (h04 : 0 < p4.length) (h64 : p4.length ≤ 60)
include hp1 h01 h61 hp2 h02 h62 hp3 h03 h63 hp4 h04 h64
theorem k48_4 (z1 z2 : Blk) (x y : Int) (hb1 : evB x y p1.reverse 0 1 = true) (hb2 : evB x y p2.reverse 0 1 = true) (hb3 : evB x y p3.reverse 0 1 = true) (hb4 : evB x y p4.reverse 0 1 = true) (rest : List Blk) : callH LL 48 [.func (.func 75) #[] #[pp 7, pp 8, pp 9]] (.cells [sl 1 0 p1.length d1, sl 2 0 p2.length d2, sl 3 0 p3.length d3, sl 4 0 p4.length d4] 1 false true :: .cells cs1 1 true own1 :: .cells cs2 1 true own2 :: .cells cs3 1 true own3 :: .cells cs4 1 true own4 :: z1 :: z2 :: bxP 0 4 c :: .cells [.func (.func 38) #[] #[]] 1 false true :: bxR x y :: rest) =
    some ⟨iv (chN [sgP p1 x y, sgP p2 x y, sgP p3 x y, sgP p4 x y] 0 0 : Nat), .cells [sl 1 0 p1.length d1, sl 2 0 p2.length d2, sl 3 0 p3.length d3, sl 4 0 p4.length d4] 1 false true :: .cells cs1 1 true own1 :: .cells cs2 1 true own2 :: .cells cs3 1 true own3 :: .cells cs4 1 true own4 :: z1 :: z2 :: bxP 0 4 c :: .cells [.func (.func 38) #[] #[]] 1 false true :: bxR x y :: rest, [7, 0, 1, 2, 3, 4, 8, 9], []⟩ := by
  have e := r48_4 x y c p1.length d1 p2.length d2 p3.length d3 p4.length d4 (cs1 := cs1) (sgP p1 x y) (sgP p2 x y) (sgP p3 x y) (sgP p4 x y) (own1 := own1) (own2 := own2) (own3 := own3) (own4 := own4) (fun l n => k38 6 d1 rfl hp1 h01 h61 x y hb1) (fun l n => k38 7 d2 rfl hp2 h02 h62 x y hb2) (fun l n => k38 8 d3 rfl hp3 h03 h63 x y hb3) (fun l n => k38 9 d4 rfl hp4 h04 h64 x y hb4)
  generalize chN _ 0 0 = Z2 at *
  have hm : ∀ q : Nat, 30 < q → reach (.cells [sl 1 0 p1.length d1, sl 2 0 p2.length d2, sl 3 0 p3.length d3, sl 4 0 p4.length d4] 1 false true :: .cells cs1 1 true own1 :: .cells cs2 1 true own2 :: .cells cs3 1 true own3 :: .cells cs4 1 true own4 :: z1 :: z2 :: bxP 0 4 c :: .cells [.func (.func 38) #[] #[]] 1 false true :: bxR x y :: rest) 0 q [7, 8, 9] [] = [7, 0, 1, 2, 3, 4, 8, 9] := by
    intro q hq
    obtain ⟨q, rfl⟩ : ∃ j, q = j + 30 := ⟨q - 30, by omega⟩
    simp [reach_cons, reachC_t, reachC_f, reach_nil, rootsB, GE.mem, nblt, nbeq, ptrB, ptrT, ptrV_ptr, ptrV_sl, ptrV_int, ptrV_func, ptrFn, ptrL, dep]
  have hpp : ([.func (.func 75) #[] #[pp 7, pp 8, pp 9]] : List Value).flatMap (ptrV dep) = [7, 8, 9] := rfl
  refine callH_of (by intro _; first | trivial | rfl) ?_ (by simp)
  unfold callH0
  simp only [hpp, hm reachN (by decide)]
  simp [optAll, renV_func, renFn, renL, renV_ptr, dep, idx, nbeq, renB, renT, renL_eq, renV_int, renV_sl, e, mergeB, renV_tuple, nblt]
theorem k48b_4 (z1 z2 z3 z4 z5 : Blk) (x y : Int) (hb1 : evB x y p1.reverse 0 1 = true) (hb2 : evB x y p2.reverse 0 1 = true) (hb3 : evB x y p3.reverse 0 1 = true) (hb4 : evB x y p4.reverse 0 1 = true) (rest : List Blk) : callH LL 48 [.func (.func 75) #[] #[pp 10, pp 11, pp 12]] (.cells [sl 1 0 p1.length d1, sl 2 0 p2.length d2, sl 3 0 p3.length d3, sl 4 0 p4.length d4] 1 false true :: .cells cs1 1 true own1 :: .cells cs2 1 true own2 :: .cells cs3 1 true own3 :: .cells cs4 1 true own4 :: z1 :: z2 :: z3 :: z4 :: z5 :: bxP 0 4 c :: .cells [.func (.func 38) #[] #[]] 1 false true :: bxR x y :: rest) =
    some ⟨iv (chN [sgP p1 x y, sgP p2 x y, sgP p3 x y, sgP p4 x y] 0 0 : Nat), .cells [sl 1 0 p1.length d1, sl 2 0 p2.length d2, sl 3 0 p3.length d3, sl 4 0 p4.length d4] 1 false true :: .cells cs1 1 true own1 :: .cells cs2 1 true own2 :: .cells cs3 1 true own3 :: .cells cs4 1 true own4 :: z1 :: z2 :: z3 :: z4 :: z5 :: bxP 0 4 c :: .cells [.func (.func 38) #[] #[]] 1 false true :: bxR x y :: rest, [10, 0, 1, 2, 3, 4, 11, 12], []⟩ := by
  have e := r48_4 x y c p1.length d1 p2.length d2 p3.length d3 p4.length d4 (cs1 := cs1) (sgP p1 x y) (sgP p2 x y) (sgP p3 x y) (sgP p4 x y) (own1 := own1) (own2 := own2) (own3 := own3) (own4 := own4) (fun l n => k38 6 d1 rfl hp1 h01 h61 x y hb1) (fun l n => k38 7 d2 rfl hp2 h02 h62 x y hb2) (fun l n => k38 8 d3 rfl hp3 h03 h63 x y hb3) (fun l n => k38 9 d4 rfl hp4 h04 h64 x y hb4)
  generalize chN _ 0 0 = Z2 at *
  have hm : ∀ q : Nat, 30 < q → reach (.cells [sl 1 0 p1.length d1, sl 2 0 p2.length d2, sl 3 0 p3.length d3, sl 4 0 p4.length d4] 1 false true :: .cells cs1 1 true own1 :: .cells cs2 1 true own2 :: .cells cs3 1 true own3 :: .cells cs4 1 true own4 :: z1 :: z2 :: z3 :: z4 :: z5 :: bxP 0 4 c :: .cells [.func (.func 38) #[] #[]] 1 false true :: bxR x y :: rest) 0 q [10, 11, 12] [] = [10, 0, 1, 2, 3, 4, 11, 12] := by
    intro q hq
    obtain ⟨q, rfl⟩ : ∃ j, q = j + 30 := ⟨q - 30, by omega⟩
    simp [reach_cons, reachC_t, reachC_f, reach_nil, rootsB, GE.mem, nblt, nbeq, ptrB, ptrT, ptrV_ptr, ptrV_sl, ptrV_int, ptrV_func, ptrFn, ptrL, dep]
  have hpp : ([.func (.func 75) #[] #[pp 10, pp 11, pp 12]] : List Value).flatMap (ptrV dep) = [10, 11, 12] := rfl
  refine callH_of (by intro _; first | trivial | rfl) ?_ (by simp)
  unfold callH0
  simp only [hpp, hm reachN (by decide)]
  simp [optAll, renV_func, renFn, renL, renV_ptr, dep, idx, nbeq, renB, renT, renL_eq, renV_int, renV_sl, e, mergeB, renV_tuple, nblt]
theorem k49_4 (x y : Int) (rest : List Blk) : callH LL 49 [sl 0 0 4 c, .agg #[iv x, iv y], .func (.func 38) #[] #[]] (.cells [sl 1 0 p1.length d1, sl 2 0 p2.length d2, sl 3 0 p3.length d3, sl 4 0 p4.length d4] 1 false true :: .cells cs1 1 true own1 :: .cells cs2 1 true own2 :: .cells cs3 1 true own3 :: .cells cs4 1 true own4 :: rest) =
    some ⟨.func (.func 75) #[] #[pp (rest.length + 5), pp (rest.length + 6), pp (rest.length + 7)], .cells [sl 1 0 p1.length d1, sl 2 0 p2.length d2, sl 3 0 p3.length d3, sl 4 0 p4.length d4] 1 false true :: .cells cs1 1 true own1 :: .cells cs2 1 true own2 :: .cells cs3 1 true own3 :: .cells cs4 1 true own4 :: (rest ++ [bxP 0 4 c, .cells [.func (.func 38) #[] #[]] 1 false true, bxR x y]), [0, 1, 2, 3, 4], []⟩ := by
  have e : LL.run 49 [sl 0 0 4 c, .agg #[iv x, iv y], .func (.func 38) #[] #[]] [.cells [sl 1 0 p1.length d1, sl 2 0 p2.length d2, sl 3 0 p3.length d3, sl 4 0 p4.length d4] 1 false true, .cells cs1 1 true own1, .cells cs2 1 true own2, .cells cs3 1 true own3, .cells cs4 1 true own4] = some ⟨.func (.func 75) #[] #[pp 5, pp 6, pp 7], [bxP 0 4 c, .cells [.func (.func 38) #[] #[]] 1 false true, bxR x y], []⟩ := by
    refine go (by decide) ?_
    rw [run49 _ _ _ (by simp)]
    simp (maxSteps := 1000000) (disch := first | omega | decide | assumption | simp [scal])
  have hm : ∀ q : Nat, 30 < q → reach (.cells [sl 1 0 p1.length d1, sl 2 0 p2.length d2, sl 3 0 p3.length d3, sl 4 0 p4.length d4] 1 false true :: .cells cs1 1 true own1 :: .cells cs2 1 true own2 :: .cells cs3 1 true own3 :: .cells cs4 1 true own4 :: rest) 0 q [0] [] = [0, 1, 2, 3, 4] := by
    intro q hq
    obtain ⟨q, rfl⟩ : ∃ j, q = j + 30 := ⟨q - 30, by omega⟩
    simp [reach_cons, reachC_t, reachC_f, reach_nil, rootsB, GE.mem, nblt, nbeq, ptrB, ptrT, ptrV_ptr, ptrV_sl, ptrV_int, ptrV_func, ptrFn, ptrL, dep]
  have hpp : ([sl 0 0 4 c, .agg #[iv x, iv y], .func (.func 38) #[] #[]] : List Value).flatMap (ptrV dep) = [0] := rfl
  refine callH_of (by intro _; first | trivial | rfl) ?_ (by simp)
  unfold callH0
  simp only [hpp, hm reachN (by decide)]
  simp [optAll, renV_func, renFn, renL, renV_ptr, renV_agg, dep, idx, nbeq, renB, renT, renL_eq, renV_int, renV_sl, e, mergeB, renV_tuple, nblt]
theorem r52_4 (x y u v : Int) (hb1 : evB x y p1.reverse 0 1 = true) (hb2 : evB x y p2.reverse 0 1 = true) (hb3 : evB x y p3.reverse 0 1 = true) (hb4 : evB x y p4.reverse 0 1 = true) (hb1b : evB u v p1.reverse 0 1 = true) (hb2b : evB u v p2.reverse 0 1 = true) (hb3b : evB u v p3.reverse 0 1 = true) (hb4b : evB u v p4.reverse 0 1 = true) : LL.run 52 [sl 0 0 4 c, .agg #[iv x, iv y], .agg #[iv u, iv v]] [.cells [sl 1 0 p1.length d1, sl 2 0 p2.length d2, sl 3 0 p3.length d3, sl 4 0 p4.length d4] 1 false true, .cells cs1 1 true own1, .cells cs2 1 true own2, .cells cs3 1 true own3, .cells cs4 1 true own4] =
    some ⟨iv ((chN [sgP p1 x y, sgP p2 x y, sgP p3 x y, sgP p4 x y] 0 0 : Nat) - (chN [sgP p1 u v, sgP p2 u v, sgP p3 u v, sgP p4 u v] 0 0 : Nat) : Int), [], []⟩ := by
  have a1 := fun R => k49_4 c d1 d2 d3 d4 (own1 := own1) (own2 := own2) (own3 := own3) (own4 := own4) hp1 h01 h61 hp2 h02 h62 hp3 h03 h63 hp4 h04 h64 x y R
  have a2 := fun z1 z2 R => k48_4 c d1 d2 d3 d4 (own1 := own1) (own2 := own2) (own3 := own3) (own4 := own4) hp1 h01 h61 hp2 h02 h62 hp3 h03 h63 hp4 h04 h64 z1 z2 x y hb1 hb2 hb3 hb4 R
  have a3 := fun R => k49_4 c d1 d2 d3 d4 (own1 := own1) (own2 := own2) (own3 := own3) (own4 := own4) hp1 h01 h61 hp2 h02 h62 hp3 h03 h63 hp4 h04 h64 u v R
  have a4 := fun z1 z2 z3 z4 z5 R => k48b_4 c d1 d2 d3 d4 (own1 := own1) (own2 := own2) (own3 := own3) (own4 := own4) hp1 h01 h61 hp2 h02 h62 hp3 h03 h63 hp4 h04 h64 z1 z2 z3 z4 z5 u v hb1b hb2b hb3b hb4b R
  have b1 := chN_le [sgP p1 x y, sgP p2 x y, sgP p3 x y, sgP p4 x y] 0 0
  have b2 := chN_le [sgP p1 u v, sgP p2 u v, sgP p3 u v, sgP p4 u v] 0 0
  simp only [List.length_cons, List.length_nil] at b1 b2
  clear hp1 h01 h61 hp2 h02 h62 hp3 h03 h63 hp4 h04 h64 hb1 hb1b hb2 hb2b hb3 hb3b hb4 hb4b
  generalize chN [sgP p1 x y, sgP p2 x y, sgP p3 x y, sgP p4 x y] 0 0 = N1 at *
  generalize chN [sgP p1 u v, sgP p2 u v, sgP p3 u v, sgP p4 u v] 0 0 = N2 at *
  refine go (by decide) ?_
  rw [run52 _ _ _ (by simp)]
  simp (maxSteps := 1000000) (disch := first | omega | decide | assumption | simp [scal]) [loadA_eq ia_24, a1, a2, a3, a4]
end
end Go.Proofs.Ytkmompbfcgjgmaa.nt
namespace Go.Proofs.Ytkmompbfcgjgmaa.nt
open Go.GE
set_option linter.unusedVariables false
set_option linter.unusedSimpArgs false
set_option linter.unusedSectionVars false
set_option maxRecDepth 100000
set_option maxHeartbeats 4000000
attribute [local simp] runOps_nil runOps_cons runOpsF_nil runOpsF_cons fstS_some fstF_some opStep_eq want_none oStep_true oStep_false fin_pure fin_read fin_alloc fin_write storeB wrN cellV addWr o_move o_assign o_pick o_alloc o_box o_load o_store o_nilCheck o_bin o_un o_extract o_callV o_callB o_callI callV_f callV_y callV_fc o_makeFunc partsA Instr.fill builtin_len builtin_max2 bin_add bin_sub bin_mul bin_quo bin_rem bin_lss bin_leq bin_gtr bin_geq bin_eql bin_neq un_neg un_not bin_shr bin_shl wrap_u64_id opd opds optAll putO nbeq nblt constOk isC ops sub cl cr co bodyOf thenS_normal thenS_ret thenS_exit thenS_goto afterN_normal afterN_ret afterN_exit afterN_goto condS_true condS_false blockS_normal blockS_ret blockS_exit blockS_goto headS normS normK_eq fixS_nil fixS_cons fix1 fixV emptyB keepO_nil keepO_cons roundC_normal roundC_exit roundC_ret roundC_goto sweep_eq sweepD rnm pickR pickW rootsB ptrT renT ptrFn renFn ptrB_flat ptrB_non renB_flat renB_non plainS_some drawS_some fpsOk disj unord range' dropTo enumT undef wrap_i64_id Value.cells mkCells ptrTo scal cellsAt rdN endS_ret resultsA Option.bind_some tupV finish reachN dep ptrL_eq ptrL renL_eq renL ptrV_bool ptrV_int ptrV_string ptrV_nilFunc ptrV_nilIface ptrV_nilPtr ptrV_ptr ptrV_nilSl ptrV_sl ptrV_iface ptrV_agg ptrV_tuple ptrV_func renV_bool renV_int renV_string renV_nilFunc renV_nilIface renV_nilPtr renV_ptr renV_nilSl renV_sl renV_iface renV_agg renV_tuple renV_func gotoS_goto gotoS_normal gotoS_exit gotoS_ret skip_seq sliceE bnd bndHi intOf optOpd keepT_nil keepT_cons keepC_t keepC_f lk_nil lk_cons lkC_t lkC_f has_nil has_cons hasC_t hasC_f rep_nil rep_cons repC_t repC_f put_eq putC_t putC_f mem_nil mem_cons memC_t memC_f idx_nil idx_cons idxC_t idxC_f reach_nil reachP_cons reachQ_t reachQ_f ptrB_dead renB_dead ins_eq
attribute [local simp] n79_1s n79_3s n79_4s n79_2s n79_0s Try.f79 n70_1s n70_4s n70_7s n70_8s n70_6s n70_9s n70_5s n70_3s n70_11s n70_13s n70_14s n70_12s n70_10s n70_2s n70_0s Try.f70
/-- a call whose new blocks hold ids -/
theorem callP_2 {f : FuncId} {args args' : List Value} {v v' : Value} {news news' : List Blk} {h : List Blk} {b1 b2 : Nat} {k1 k2 : Blk} (hp : args.flatMap (ptrV dep) = [b1, b2]) (hb1 : h[b1]? = some k1) (hb2 : h[b2]? = some k2) (hne : b1 ≠ b2) (hn1 : noIdB k1) (hn2 : noIdB k2)
    (hr : optAll (renV (idx [b1, b2]) dep) args = some args') (he : LL.run f args' [k1, k2] = some ⟨v, news, []⟩) (hn : optAll (renB (fun c => cond (Nat.blt c 2) ([b1, b2][c]?) (some (h.length + (c - 2))))) news = some news')
    (hv : renV (fun c => cond (Nat.blt c 2) ([b1, b2][c]?) (some (h.length + (c - 2)))) dep v = some v') (hk : idle LL f args := by intro _; first | trivial | rfl) : callH LL f args h = some ⟨v', h ++ news', [b1, b2], []⟩ := by
  refine callH_of hk ?_ (by have g1 := (List.getElem?_eq_some_iff.1 hb1).1; have g2 := (List.getElem?_eq_some_iff.1 hb2).1; intro b hb; simp at hb; rcases hb with rfl | rfl <;> assumption)
  unfold callH0
  rw [hp, reach_two hb1 hb2 hne hn1.2 hn2.2 (by decide)]
  simp only [hr, optAll, hb1, hb2, hn1.1, hn2.1, he]
  unfold mergeB
  simp only [hv, optAll, List.foldl_nil, List.map_nil]
  rw [show optAll (renB fun b => cond (Nat.blt b [b1, b2].length) ([b1, b2][b]?) (some (h.length + (b - [b1, b2].length)))) news = some news' from hn, show renV (fun b => cond (Nat.blt b [b1, b2].length) ([b1, b2][b]?) (some (h.length + (b - [b1, b2].length)))) dep v = some v' from hv]
  rfl
theorem callP_1 {f : FuncId} {args args' : List Value} {v v' : Value} {news news' : List Blk} {h : List Blk} {b1 : Nat} {k1 : Blk} (hp : args.flatMap (ptrV dep) = [b1]) (hb1 : h[b1]? = some k1) (hn1 : noIdB k1)
    (hr : optAll (renV (idx [b1]) dep) args = some args') (he : LL.run f args' [k1] = some ⟨v, news, []⟩) (hn : optAll (renB (fun c => cond (Nat.blt c 1) ([b1][c]?) (some (h.length + (c - 1))))) news = some news')
    (hv : renV (fun c => cond (Nat.blt c 1) ([b1][c]?) (some (h.length + (c - 1)))) dep v = some v') (hk : idle LL f args := by intro _; first | trivial | rfl) : callH LL f args h = some ⟨v', h ++ news', [b1], []⟩ := by
  refine callH_of hk ?_ (by simpa using (List.getElem?_eq_some_iff.1 hb1).1)
  unfold callH0
  rw [hp, reach_one hb1 hn1.2 (by decide)]
  simp only [hr, optAll, hb1, hn1.1, he]
  unfold mergeB
  simp only [hv, optAll, List.foldl_nil, List.map_nil]
  rw [show optAll (renB fun b => cond (Nat.blt b [b1].length) ([b1][b]?) (some (h.length + (b - [b1].length)))) news = some news' from hn, show renV (fun b => cond (Nat.blt b [b1].length) ([b1][b]?) (some (h.length + (b - [b1].length)))) dep v = some v' from hv]
  rfl
theorem app_2 {h : List Blk} {b c : Nat} {v : Value} {a1 a2 : Value} {fl : Bool} {rd : List Nat} (h1 : cellV a1 = true) (h2 : cellV a2 = true) : appS h 1 24 b 0 1 c (some (.cells [v] 1 false true)) (some (2, [a1, a2], fl, rd)) = some ⟨.slice (some ⟨h.length, 0, none⟩) 3 3, h.set b .dead ++ [.cells [v, a1, a2] 1 false true], b :: rd, [b]⟩ := by
  have hr := rdN_all [v] 1 0 (by simp)
  simp only [appS, Nat.mul_one, hr, List.drop_zero, List.all_cons, List.all_nil, h1, h2]
  rw [if_pos (by refine ⟨by decide, by decide, trivial, rfl⟩)]
  rfl
theorem app_3 {h : List Blk} {b c : Nat} {v : Value} {a1 a2 a3 : Value} {fl : Bool} {rd : List Nat} (h1 : cellV a1 = true) (h2 : cellV a2 = true) (h3 : cellV a3 = true) : appS h 1 24 b 0 1 c (some (.cells [v] 1 false true)) (some (3, [a1, a2, a3], fl, rd)) = some ⟨.slice (some ⟨h.length, 0, none⟩) 4 4, h.set b .dead ++ [.cells [v, a1, a2, a3] 1 false true], b :: rd, [b]⟩ := by
  have hr := rdN_all [v] 1 0 (by simp)
  simp only [appS, Nat.mul_one, hr, List.drop_zero, List.all_cons, List.all_nil, h1, h2, h3]
  rw [if_pos (by refine ⟨by decide, by decide, trivial, rfl⟩)]
  rfl
section
variable (n1 d1 n2 d2 n3 d3 n4 d4 : Nat)
theorem r79_2 (B1 B2 B3 : Blk) : LL.run 79 [sl 0 0 1 1, sl 2 0 2 2] [.cells [sl 1 0 n1 d1] 1 false true, B1, .cells [sl 3 0 n2 d2, sl 4 0 n3 d3] 1 false true, B2, B3] =
    some ⟨sl 5 0 3 3, [.cells [sl 1 0 n1 d1, sl 3 0 n2 d2, sl 4 0 n3 d3] 1 false true], [(0, .dead)]⟩ := by
  refine go (by decide) ?_
  have a := fun hp rd => app_2 (h := hp) (b := 0) (c := 1) (v := sl 1 0 n1 d1) (a1 := sl 3 0 n2 d2) (a2 := sl 4 0 n3 d3) (fl := false) (rd := rd) rfl rfl
  rw [run79 _ _ _ (by simp)]
  simp (maxSteps := 1000000) (disch := first | omega | decide | assumption | simp [scal]) [ap_76, builtin_append ni_76, append_some ap_76, srcCells, a]
theorem r79_3 (B1 B2 B3 B4 : Blk) : LL.run 79 [sl 0 0 1 1, sl 2 0 3 3] [.cells [sl 1 0 n1 d1] 1 false true, B1, .cells [sl 3 0 n2 d2, sl 4 0 n3 d3, sl 5 0 n4 d4] 1 false true, B2, B3, B4] =
    some ⟨sl 6 0 4 4, [.cells [sl 1 0 n1 d1, sl 3 0 n2 d2, sl 4 0 n3 d3, sl 5 0 n4 d4] 1 false true], [(0, .dead)]⟩ := by
  refine go (by decide) ?_
  have a := fun hp rd => app_3 (h := hp) (b := 0) (c := 1) (v := sl 1 0 n1 d1) (a1 := sl 3 0 n2 d2) (a2 := sl 4 0 n3 d3) (a3 := sl 5 0 n4 d4) (fl := false) (rd := rd) rfl rfl rfl
  rw [run79 _ _ _ (by simp)]
  simp (maxSteps := 1000000) (disch := first | omega | decide | assumption | simp [scal]) [ap_76, builtin_append ni_76, append_some ap_76, srcCells, a]
theorem h79_2 (P O q r R : List Value) (o1 o2 : Bool) : callH LL 79 [sl 4 0 1 1, sl 6 0 2 2] [.cells P 1 true o1, .cells O 1 true o2, .cells q 1 true true, .cells r 1 true true, .cells [sl 0 0 n1 d1] 1 false true, .cells R 1 true true, .cells [sl 1 0 n2 d2, sl 5 0 n3 d3] 1 false true] =
    some ⟨sl 7 0 3 3, [.cells P 1 true o1, .cells O 1 true o2, .cells q 1 true true, .cells r 1 true true, .dead, .cells R 1 true true, .cells [sl 1 0 n2 d2, sl 5 0 n3 d3] 1 false true, .cells [sl 0 0 n1 d1, sl 1 0 n2 d2, sl 5 0 n3 d3] 1 false true], [4, 0, 6, 1, 5], [4]⟩ := by
  have e := r79_2 n1 d1 n2 d2 n3 d3 (.cells P 1 true o1) (.cells O 1 true o2) (.cells R 1 true true)
  have hm : ∀ q' : Nat, 30 < q' → reach [.cells P 1 true o1, .cells O 1 true o2, .cells q 1 true true, .cells r 1 true true, .cells [sl 0 0 n1 d1] 1 false true, .cells R 1 true true, .cells [sl 1 0 n2 d2, sl 5 0 n3 d3] 1 false true] 0 q' [4, 6] [] = [4, 0, 6, 1, 5] := by
    intro q hq
    obtain ⟨q, rfl⟩ : ∃ j, q = j + 30 := ⟨q - 30, by omega⟩
    simp [reach_cons, reachC_t, reachC_f, reach_nil, rootsB, GE.mem, nblt, nbeq, ptrB, ptrT, ptrV_ptr, ptrV_sl, ptrV_int, ptrL, dep]
  have hpp : ([sl 4 0 1 1, sl 6 0 2 2] : List Value).flatMap (ptrV dep) = [4, 6] := rfl
  refine callH_of (by intro _; first | trivial | rfl) ?_ (by simp)
  unfold callH0
  simp only [hpp, hm reachN (by decide)]
  simp [optAll, renV_func, renFn, renL, renV_ptr, renV_agg, dep, idx, nbeq, renB, renT, renL_eq, renV_int, renV_sl, e, mergeB, renV_tuple, nblt]
theorem h79_3 (P O q r R R2 : List Value) (o1 o2 : Bool) : callH LL 79 [sl 4 0 1 1, sl 6 0 3 3] [.cells P 1 true o1, .cells O 1 true o2, .cells q 1 true true, .cells r 1 true true, .cells [sl 0 0 n1 d1] 1 false true, .cells R 1 true true, .cells [sl 1 0 n2 d2, sl 5 0 n3 d3, sl 7 0 n4 d4] 1 false true, .cells R2 1 true true] =
    some ⟨sl 8 0 4 4, [.cells P 1 true o1, .cells O 1 true o2, .cells q 1 true true, .cells r 1 true true, .dead, .cells R 1 true true, .cells [sl 1 0 n2 d2, sl 5 0 n3 d3, sl 7 0 n4 d4] 1 false true, .cells R2 1 true true, .cells [sl 0 0 n1 d1, sl 1 0 n2 d2, sl 5 0 n3 d3, sl 7 0 n4 d4] 1 false true], [4, 0, 6, 1, 5, 7], [4]⟩ := by
  have e := r79_3 n1 d1 n2 d2 n3 d3 n4 d4 (.cells P 1 true o1) (.cells O 1 true o2) (.cells R 1 true true) (.cells R2 1 true true)
  have hm : ∀ q' : Nat, 30 < q' → reach [.cells P 1 true o1, .cells O 1 true o2, .cells q 1 true true, .cells r 1 true true, .cells [sl 0 0 n1 d1] 1 false true, .cells R 1 true true, .cells [sl 1 0 n2 d2, sl 5 0 n3 d3, sl 7 0 n4 d4] 1 false true, .cells R2 1 true true] 0 q' [4, 6] [] = [4, 0, 6, 1, 5, 7] := by
    intro q hq
    obtain ⟨q, rfl⟩ : ∃ j, q = j + 30 := ⟨q - 30, by omega⟩
    simp [reach_cons, reachC_t, reachC_f, reach_nil, rootsB, GE.mem, nblt, nbeq, ptrB, ptrT, ptrV_ptr, ptrV_sl, ptrV_int, ptrL, dep]
  have hpp : ([sl 4 0 1 1, sl 6 0 3 3] : List Value).flatMap (ptrV dep) = [4, 6] := rfl
  refine callH_of (by intro _; first | trivial | rfl) ?_ (by simp)
  unfold callH0
  simp only [hpp, hm reachN (by decide)]
  simp [optAll, renV_func, renFn, renL, renV_ptr, renV_agg, dep, idx, nbeq, renB, renT, renL_eq, renV_int, renV_sl, e, mergeB, renV_tuple, nblt]
end
/-- what follows two polynomials in a chain -/
def nxt (p o : List Int) : List Int := tms (lea (ovF p o).2) (-1)
def nxtB (p o : List Int) : Bool := Nat.ble 2 o.length && Nat.ble o.length p.length && Nat.ble p.length 60 && ovB p o && allB (nxt p o) && Nat.ble 1 (nxt p o).length
section
variable {p o : List Int} (hB : nxtB p o = true)
include hB
theorem nxt_ok : 2 ≤ o.length ∧ o.length ≤ p.length ∧ p.length ≤ 60 ∧ ovB p o = true ∧ allB (nxt p o) = true ∧ 1 ≤ (nxt p o).length ∧ (nxt p o).length ≤ 60 := by
  unfold nxtB at hB
  simp only [Bool.and_eq_true] at hB
  obtain ⟨⟨⟨⟨⟨c1, c2⟩, c3⟩, c4⟩, c5⟩, c6⟩ := hB
  have c1 := Nat.le_of_ble_eq_true c1
  have c2 := Nat.le_of_ble_eq_true c2
  have c3 := Nat.le_of_ble_eq_true c3
  have c6 := Nat.le_of_ble_eq_true c6
  refine ⟨c1, c2, c3, c4, c5, c6, ?_⟩
  obtain ⟨C', k', r1, r2, r3, r4, r5⟩ := l65f p.length o.length (cs := zm p) (co := zm o) (own := true) (own2 := true) PoC_zm PoC_zm c3 (by omega) c2 c4
  unfold nxt
  rw [tms_len, lea_len]
  have := dgP_le (p := (ovF p o).2)
  rw [← r3, List.length_take] at this
  rw [← r3]
  omega
end
section
variable (b b2 c cc : Nat) {cs co : List Value} {own own2 : Bool} {p o : List Int} {h : List Blk} (hb : h[b]? = some (.cells cs 1 true own)) (hb2 : h[b2]? = some (.cells co 1 true own2)) (hne : b ≠ b2) (hp : PoC cs p) (ho : PoC co o)
include hb hb2 hne hp ho
theorem k70_2 (h1 : o.length = 1) : callH LL 70 [sl b 0 p.length c, sl b2 0 1 cc] h = some ⟨sl h.length 0 2 2, h ++ [.cells [sl b 0 p.length c, sl b2 0 1 cc] 1 false true], [b, b2], []⟩ := by
  have hne' : ¬ b2 = b := fun e => hne e.symm
  refine callP_2 rfl hb hb2 hne noIdB_flat noIdB_flat (args' := [sl 0 0 p.length c, sl 1 0 1 cc]) (by simp [renV, dep, optAll, idx, nbeq, hne, hne']) (v := sl 2 0 2 2) (news := [.cells [sl 0 0 p.length c, sl 1 0 1 cc] 1 false true]) (go (by decide) ?_)
    (by simp [optAll, renB, renL, renL_eq, renV_sl, dep, nblt]) (by simp [renV, dep])
  rw [run70 _ _ _ (by simp)]
  simp (maxSteps := 1000000) (disch := first | omega | decide | assumption | simp [scal]) [lenA_sl lk_71, o_indexAddrS es_76, ze_76, o_buildSlice es_76 ze_76 (by decide) ba_76_2, o_buildSlice es_76 ze_76 (by decide) ba_76_1]
theorem k70_3 (hB : nxtB p o = true) (h1 : (nxt p o).length = 1) : callH LL 70 [sl b 0 p.length c, sl b2 0 o.length cc] h = some ⟨sl h.length 0 3 3, h ++ [.cells [sl b 0 p.length c, sl b2 0 o.length cc, sl (h.length + 1) 0 1 1] 1 false true, zB (nxt p o)], [b, b2], []⟩ := by
  have hne' : ¬ b2 = b := fun e => hne e.symm
  obtain ⟨c1', c2, c3, c4, c5, c6, c7⟩ := nxt_ok hB
  refine callP_2 rfl hb hb2 hne noIdB_flat noIdB_flat (args' := [sl 0 0 p.length c, sl 1 0 o.length cc]) (by simp [renV, dep, optAll, idx, nbeq, hne, hne']) (v := sl 2 0 3 3) (news := [.cells [sl 0 0 p.length c, sl 1 0 o.length cc, sl 3 0 1 1] 1 false true, zB (nxt p o)]) (go (by decide) ?_)
    (by simp [optAll, renB, renL, renL_eq, renV_sl, dep, nblt]) (by simp [renV, dep])
  have a65 := k65 0 1 c cc (p := p) (o := o) (h := [.cells cs 1 true own, .cells co 1 true own2]) rfl rfl (by decide) hp ho c3 (by omega) c2 c4
  have a66 := fun X => k66 3 (dgP (ovF p o).2) (p := lea (ovF p o).2) (h := [.cells cs 1 true own, .cells co 1 true own2, zB (lea (ovF p o).1), zB (lea (ovF p o).2), X]) rfl PoC_zm (by unfold nxt at c7; rw [tms_len] at c7; exact c7) (-1) (sm_tms c5)
  rw [show tms (lea (ovF p o).2) (-1) = nxt p o from rfl] at a66
  have a70 := k70_2 1 5 cc 1 (cs := co) (co := zm (nxt p o)) (own := own2) (own2 := true) (p := o) (o := nxt p o) (h := [.cells cs 1 true own, .cells co 1 true own2, zB (lea (ovF p o).1), zB (lea (ovF p o).2), .cells [sl 0 0 p.length c] 1 false true, zB (nxt p o)]) rfl rfl (by decide) ho PoC_zm h1
  have a79 := h79_2 p.length c o.length cc 1 1 cs co (zm (lea (ovF p o).1)) (zm (lea (ovF p o).2)) (zm (nxt p o)) own own2
  have el : (lea (ovF p o).2).length = dgP (ovF p o).2 := lea_len
  have e2 : dgP (ovF p o).2 = 1 := by rw [← el]; unfold nxt at h1; rwa [tms_len] at h1
  rw [el, e2] at a66
  rw [e2] at a65
  have e3 : ¬ o.length = 1 := by omega
  have e3' : ¬ (o.length : Int) = 1 := by omega
  clear hB c4 c5 h1
  simp only [zB] at a65 a66 a70 a79 ⊢
  generalize zm (nxt p o) = L1 at *
  generalize zm (lea (ovF p o).1) = L2 at *
  generalize zm (lea (ovF p o).2) = L3 at *
  generalize dgP (ovF p o).1 = d1 at *
  rw [run70 _ _ _ (by simp)]
  simp (maxSteps := 1000000) (disch := first | omega | decide | assumption | simp [scal]) [lenA_sl lk_71, o_indexAddrS es_76, ze_76, o_buildSlice es_76 ze_76 (by decide) ba_76_2, o_buildSlice es_76 ze_76 (by decide) ba_76_1, e3, e3', a65, a66, a70, a79]
theorem k70_4 (hB : nxtB p o = true) (hB2 : nxtB o (nxt p o) = true) (h1 : (nxt o (nxt p o)).length = 1) : callH LL 70 [sl b 0 p.length c, sl b2 0 o.length cc] h = some ⟨sl h.length 0 4 4, h ++ [.cells [sl b 0 p.length c, sl b2 0 o.length cc, sl (h.length + 1) 0 (nxt p o).length (nxt p o).length, sl (h.length + 2) 0 1 1] 1 false true, zB (nxt p o), zB (nxt o (nxt p o))], [b, b2], []⟩ := by
  have hne' : ¬ b2 = b := fun e => hne e.symm
  obtain ⟨c1', c2, c3, c4, c5, c6, c7⟩ := nxt_ok hB
  refine callP_2 rfl hb hb2 hne noIdB_flat noIdB_flat (args' := [sl 0 0 p.length c, sl 1 0 o.length cc]) (by simp [renV, dep, optAll, idx, nbeq, hne, hne']) (v := sl 2 0 4 4) (news := [.cells [sl 0 0 p.length c, sl 1 0 o.length cc, sl 3 0 (nxt p o).length (nxt p o).length, sl 4 0 1 1] 1 false true, zB (nxt p o), zB (nxt o (nxt p o))]) (go (by decide) ?_)
    (by simp [optAll, renB, renL, renL_eq, renV_sl, dep, nblt]) (by simp [renV, dep])
  have a65 := k65 0 1 c cc (p := p) (o := o) (h := [.cells cs 1 true own, .cells co 1 true own2]) rfl rfl (by decide) hp ho c3 (by omega) c2 c4
  have a66 := fun X => k66 3 (dgP (ovF p o).2) (p := lea (ovF p o).2) (h := [.cells cs 1 true own, .cells co 1 true own2, zB (lea (ovF p o).1), zB (lea (ovF p o).2), X]) rfl PoC_zm (by unfold nxt at c7; rw [tms_len] at c7; exact c7) (-1) (sm_tms c5)
  rw [show tms (lea (ovF p o).2) (-1) = nxt p o from rfl] at a66
  have a70 := k70_3 1 5 cc (nxt p o).length (cs := co) (co := zm (nxt p o)) (own := own2) (own2 := true) (p := o) (o := nxt p o) (h := [.cells cs 1 true own, .cells co 1 true own2, zB (lea (ovF p o).1), zB (lea (ovF p o).2), .cells [sl 0 0 p.length c] 1 false true, zB (nxt p o)]) rfl rfl (by decide) ho PoC_zm hB2 h1
  have a79 := h79_3 p.length c o.length cc (nxt p o).length (nxt p o).length 1 1 cs co (zm (lea (ovF p o).1)) (zm (lea (ovF p o).2)) (zm (nxt p o)) (zm (nxt o (nxt p o))) own own2
  have el : (lea (ovF p o).2).length = dgP (ovF p o).2 := lea_len
  have e2 : (nxt p o).length = dgP (ovF p o).2 := by rw [← el]; unfold nxt; rw [tms_len]
  rw [el] at a66
  rw [e2] at a70 a79 ⊢
  have e3 : ¬ o.length = 1 := by omega
  have e3' : ¬ (o.length : Int) = 1 := by omega
  clear hB hB2 c4 c5 h1
  simp only [zB] at a65 a66 a70 a79 ⊢
  generalize zm (nxt o (nxt p o)) = L4 at *
  generalize zm (nxt p o) = L1 at *
  generalize zm (lea (ovF p o).1) = L2 at *
  generalize zm (lea (ovF p o).2) = L3 at *
  generalize dgP (ovF p o).1 = d1 at *
  generalize dgP (ovF p o).2 = d2 at *
  rw [run70 _ _ _ (by simp)]
  simp (maxSteps := 1000000) (disch := first | omega | decide | assumption | simp [scal]) [lenA_sl lk_71, o_indexAddrS es_76, ze_76, o_buildSlice es_76 ze_76 (by decide) ba_76_2, o_buildSlice es_76 ze_76 (by decide) ba_76_1, e3, e3', a65, a66, a70, a79]
end
def stu (p : List Int) : List (List Int) :=
  let l := lea (slp (cor p))
  bif Nat.beq l.length 1 then [cor p, l] else
  let r := nxt (cor p) l
  bif Nat.beq r.length 1 then [cor p, l, r] else [cor p, l, r, nxt l r]
/-- nothing is too great, and it ends with a constant -/
def stuB (p : List Int) : Bool :=
  let l := lea (slp (cor p))
  corB p && Nat.ble 2 (cor p).length && Nat.ble (cor p).length 60 && allB (slp (cor p)) && (bif Nat.beq l.length 1 then true else
  let r := nxt (cor p) l
  nxtB (cor p) l && (bif Nat.beq r.length 1 then true else nxtB l r && Nat.beq (nxt l r).length 1))
def stC : Nat → List (List Int) → List Value
  | _, [] => []
  | p, q :: S => sl p 0 q.length q.length :: stC (p + 1) S
/-- a list of polynomials, told: its cells, then a block for each -/
def stBk (p : Nat) (S : List (List Int)) : List Blk := .cells (stC (p + 1) S) 1 false true :: S.map zB
end Go.Proofs.Ytkmompbfcgjgmaa.nt
namespace Go.Proofs.Ytkmompbfcgjgmaa.nt
open Go.GE
set_option linter.unusedVariables false
set_option linter.unusedSimpArgs false
set_option linter.unusedSectionVars false
set_option maxRecDepth 100000
set_option maxHeartbeats 4000000
attribute [local simp] runOps_nil runOps_cons runOpsF_nil runOpsF_cons fstS_some fstF_some opStep_eq want_none oStep_true oStep_false fin_pure fin_read fin_alloc fin_write storeB wrN cellV addWr o_move o_assign o_pick o_alloc o_box o_load o_store o_nilCheck o_bin o_un o_extract o_callV o_callB o_callI callV_f callV_y callV_fc o_makeFunc partsA Instr.fill builtin_len builtin_max2 bin_add bin_sub bin_mul bin_quo bin_rem bin_lss bin_leq bin_gtr bin_geq bin_eql bin_neq un_neg un_not bin_shr bin_shl wrap_u64_id opd opds optAll putO nbeq nblt constOk isC ops sub cl cr co bodyOf thenS_normal thenS_ret thenS_exit thenS_goto afterN_normal afterN_ret afterN_exit afterN_goto condS_true condS_false blockS_normal blockS_ret blockS_exit blockS_goto headS normS normK_eq fixS_nil fixS_cons fix1 fixV emptyB keepO_nil keepO_cons roundC_normal roundC_exit roundC_ret roundC_goto sweep_eq sweepD rnm pickR pickW rootsB ptrT renT ptrFn renFn ptrB_flat ptrB_non renB_flat renB_non plainS_some drawS_some fpsOk disj unord range' dropTo enumT undef wrap_i64_id Value.cells mkCells ptrTo scal cellsAt rdN endS_ret resultsA Option.bind_some tupV finish reachN dep ptrL_eq ptrL renL_eq renL ptrV_bool ptrV_int ptrV_string ptrV_nilFunc ptrV_nilIface ptrV_nilPtr ptrV_ptr ptrV_nilSl ptrV_sl ptrV_iface ptrV_agg ptrV_tuple ptrV_func renV_bool renV_int renV_string renV_nilFunc renV_nilIface renV_nilPtr renV_ptr renV_nilSl renV_sl renV_iface renV_agg renV_tuple renV_func gotoS_goto gotoS_normal gotoS_exit gotoS_ret skip_seq sliceE bnd bndHi intOf optOpd keepT_nil keepT_cons keepC_t keepC_f lk_nil lk_cons lkC_t lkC_f has_nil has_cons hasC_t hasC_f rep_nil rep_cons repC_t repC_f put_eq putC_t putC_f mem_nil mem_cons memC_t memC_f idx_nil idx_cons idxC_t idxC_f reach_nil reachP_cons reachQ_t reachQ_f ptrB_dead renB_dead ins_eq
attribute [local simp] n43_1s n43_3s n43_5s n43_6s n43_4s n43_2s n43_0s Try.f43
section
variable (b c : Nat) {cs : List Value} {own : Bool} {p : List Int} {h : List Blk} (hb : h[b]? = some (.cells cs 1 true own)) (hp : PoC cs p)
include hb hp
theorem k43 (hB : stuB p = true) : callH LL 43 [sl b 0 p.length c] h = some ⟨sl h.length 0 (stu p).length (stu p).length, h ++ stBk h.length (stu p), [b], []⟩ := by
  unfold stuB at hB
  simp only [Bool.and_eq_true] at hB
  obtain ⟨⟨⟨⟨c1, c2⟩, c3⟩, c4⟩, c5⟩ := hB
  have c2 := Nat.le_of_ble_eq_true c2
  have c3 := Nat.le_of_ble_eq_true c3
  have a41 := k41 0 c (h := [.cells cs 1 true own]) rfl hp c1
  have a54 := k54 1 (cor p).length (p := cor p) (h := [.cells cs 1 true own, zB (cor p)]) rfl PoC_zm (by omega) c3 (sm_slp c4)
  have a71 := k71 2 ((cor p).length - 1) (p := slp (cor p)) (h := [.cells cs 1 true own, zB (cor p), zB (slp (cor p))]) rfl PoC_zm (by rw [slp_len]; omega) (allB_lt c4)
  rw [slp_len] at a71
  obtain ⟨l, hl⟩ : ∃ l, lea (slp (cor p)) = l := ⟨_, rfl⟩
  have hll : l.length = dgP (slp (cor p)) := by rw [← hl, lea_len]
  have hst : stu p = (bif Nat.beq l.length 1 then [cor p, l] else (bif Nat.beq (nxt (cor p) l).length 1 then [cor p, l, nxt (cor p) l] else [cor p, l, nxt (cor p) l, nxt l (nxt (cor p) l)])) := by unfold stu; rw [hl]
  rw [hl, ← hll] at a71
  rw [hl] at c5
  rw [hst]
  generalize cor p = C at *
  simp only [zB] at a41 a54 a71
  generalize zm (slp C) = S2 at *
  clear c4 hl hll hst c1
  by_cases h1 : l.length = 1
  · have eb : Nat.beq l.length 1 = true := by rw [h1]; rfl
    simp only [eb, cond_true]
    have a70 := k70_2 1 3 C.length 1 (cs := zm C) (co := zm l) (own := true) (own2 := true) (p := C) (o := l) (h := [.cells cs 1 true own, zB C, .cells S2 1 true true, zB l]) rfl rfl (by decide) PoC_zm PoC_zm h1
    refine callP_1 rfl hb noIdB_flat (args' := [sl 0 0 p.length c]) (by simp [renV, dep, optAll, idx, nbeq]) (v := sl 1 0 2 2) (news := stBk 1 [C, l]) (go (by decide) ?_)
      (by simp [stBk, stC, optAll, renB, renL, renL_eq, renV_sl, dep, nblt, h1]) (by simp [renV, dep])
    rw [h1] at a71
    simp only [stBk, stC, zB, List.map_cons, List.map_nil, h1] at a41 a54 a71 a70 ⊢
    generalize zm C = L1 at *
    generalize zm l = L2 at *
    rw [run43 _ _ _ (by simp)]
    simp (maxSteps := 1000000) (disch := first | omega | decide | assumption | simp [scal]) [a41, a54, a71, a70]
  · have eb : Nat.beq l.length 1 = false := by rw [nbeq]; simp [h1]
    simp only [eb, cond_false, Bool.and_eq_true] at c5 ⊢
    obtain ⟨c6, c7⟩ := c5
    by_cases h2 : (nxt C l).length = 1
    · have eb2 : Nat.beq (nxt C l).length 1 = true := by rw [h2]; rfl
      simp only [eb2, cond_true]
      have a70 := k70_3 1 3 C.length l.length (cs := zm C) (co := zm l) (own := true) (own2 := true) (p := C) (o := l) (h := [.cells cs 1 true own, zB C, .cells S2 1 true true, zB l]) rfl rfl (by decide) PoC_zm PoC_zm c6 h2
      refine callP_1 rfl hb noIdB_flat (args' := [sl 0 0 p.length c]) (by simp [renV, dep, optAll, idx, nbeq]) (v := sl 1 0 3 3) (news := stBk 1 [C, l, nxt C l]) (go (by decide) ?_)
        (by simp [stBk, stC, optAll, renB, renL, renL_eq, renV_sl, dep, nblt, h2]) (by simp [renV, dep])
      simp only [stBk, stC, zB, List.map_cons, List.map_nil, h2] at a41 a54 a71 a70 ⊢
      clear c6 c7 h2 eb2 eb
      generalize zm (nxt C l) = L3 at *
      generalize zm C = L1 at *
      generalize zm l = L2 at *
      rw [run43 _ _ _ (by simp)]
      simp (maxSteps := 1000000) (disch := first | omega | decide | assumption | simp [scal]) [a41, a54, a71, a70]
    · have eb2 : Nat.beq (nxt C l).length 1 = false := by rw [nbeq]; simp [h2]
      simp only [eb2, cond_false, Bool.and_eq_true] at c7 ⊢
      obtain ⟨c7, c8⟩ := c7
      have h3 : (nxt l (nxt C l)).length = 1 := by rw [nbeq, decide_eq_true_eq] at c8; exact c8
      have a70 := k70_4 1 3 C.length l.length (cs := zm C) (co := zm l) (own := true) (own2 := true) (p := C) (o := l) (h := [.cells cs 1 true own, zB C, .cells S2 1 true true, zB l]) rfl rfl (by decide) PoC_zm PoC_zm c6 c7 h3
      refine callP_1 rfl hb noIdB_flat (args' := [sl 0 0 p.length c]) (by simp [renV, dep, optAll, idx, nbeq]) (v := sl 1 0 4 4) (news := stBk 1 [C, l, nxt C l, nxt l (nxt C l)]) (go (by decide) ?_)
        (by simp [stBk, stC, optAll, renB, renL, renL_eq, renV_sl, dep, nblt, h3]) (by simp [renV, dep])
      simp only [stBk, stC, zB, List.map_cons, List.map_nil, h3] at a41 a54 a71 a70 ⊢
      clear c6 c7 c8 h2 eb2 eb h3
      generalize zm (nxt l (nxt C l)) = L4 at *
      generalize zm (nxt C l) = L3 at *
      generalize zm C = L1 at *
      generalize zm l = L2 at *
      generalize (nxt C l).length = g3 at *
      rw [run43 _ _ _ (by simp)]
      simp (maxSteps := 1000000) (disch := first | omega | decide | assumption | simp [scal]) [a41, a54, a71, a70]
end
end Go.Proofs.Ytkmompbfcgjgmaa.nt
namespace Go.Proofs.Ytkmompbfcgjgmaa.nt
open Go.GE
set_option linter.unusedVariables false
set_option linter.unusedSimpArgs false
set_option linter.unusedSectionVars false
set_option maxRecDepth 100000
set_option maxHeartbeats 4000000
attribute [local simp] runOps_nil runOps_cons runOpsF_nil runOpsF_cons fstS_some fstF_some opStep_eq want_none oStep_true oStep_false fin_pure fin_read fin_alloc fin_write storeB wrN cellV addWr o_move o_assign o_pick o_alloc o_box o_load o_store o_nilCheck o_bin o_un o_extract o_callV o_callB o_callI callV_f callV_y callV_fc o_makeFunc partsA Instr.fill builtin_len builtin_max2 bin_add bin_sub bin_mul bin_quo bin_rem bin_lss bin_leq bin_gtr bin_geq bin_eql bin_neq un_neg un_not bin_shr bin_shl wrap_u64_id opd opds optAll putO nbeq nblt constOk isC ops sub cl cr co bodyOf thenS_normal thenS_ret thenS_exit thenS_goto afterN_normal afterN_ret afterN_exit afterN_goto condS_true condS_false blockS_normal blockS_ret blockS_exit blockS_goto headS normS normK_eq fixS_nil fixS_cons fix1 fixV emptyB keepO_nil keepO_cons roundC_normal roundC_exit roundC_ret roundC_goto sweep_eq sweepD rnm pickR pickW rootsB ptrT renT ptrFn renFn ptrB_flat ptrB_non renB_flat renB_non plainS_some drawS_some fpsOk disj unord range' dropTo enumT undef wrap_i64_id Value.cells mkCells ptrTo scal cellsAt rdN endS_ret resultsA Option.bind_some tupV finish reachN dep ptrL_eq ptrL renL_eq renL ptrV_bool ptrV_int ptrV_string ptrV_nilFunc ptrV_nilIface ptrV_nilPtr ptrV_ptr ptrV_nilSl ptrV_sl ptrV_iface ptrV_agg ptrV_tuple ptrV_func renV_bool renV_int renV_string renV_nilFunc renV_nilIface renV_nilPtr renV_ptr renV_nilSl renV_sl renV_iface renV_agg renV_tuple renV_func gotoS_goto gotoS_normal gotoS_exit gotoS_ret skip_seq sliceE bnd bndHi intOf optOpd keepT_nil keepT_cons keepC_t keepC_f lk_nil lk_cons lkC_t lkC_f has_nil has_cons hasC_t hasC_f rep_nil rep_cons repC_t repC_f put_eq putC_t putC_f mem_nil mem_cons memC_t memC_f idx_nil idx_cons idxC_t idxC_f reach_nil reachP_cons reachQ_t reachQ_f ptrB_dead renB_dead ins_eq
attribute [local simp] n46_1s n46_3s n46_4s n46_2s n46_0s Try.f46 n73_1s n73_4s n73_8s n73_11s n73_12s n73_10s n73_16s n73_18s n73_21s n73_22s n73_20s n73_23s n73_19s n73_17s n73_15s n73_14s n73_24s n73_13s n73_9s n73_7s n73_6s n73_6g n73_5s n73_3s n73_26s n73_27s n73_25s n73_2s n73_0s Try.f73 n45_1s n45_3s n45_4s n45_2s n45_0s Try.f45 n21_1s n21_5s n21_8s n21_9s n21_7s n21_11s n21_14s n21_15s n21_13s n21_17s n21_20s n21_21s n21_19s n21_23s n21_26s n21_27s n21_25s n21_28s n21_24s n21_22s n21_18s n21_16s n21_12s n21_10s n21_6s n21_4s n21_3s n21_30s n21_31s n21_29s n21_2s n21_0s Try.f21
def badC (x : Int) : Bool := decide (x < -50) || decide (50 < x)
theorem k46 (x : Int) (h : List Blk) : callH LL 46 [iv x] h = some ⟨.bool (badC x), h, [], []⟩ := by
  refine callH_plain (go (by decide) ?_) rfl rfl
  rw [run46 _ _ _ (by simp)]
  unfold badC
  by_cases h1 : x < -50
  · simp (maxSteps := 1000000) (disch := first | omega | decide | assumption | simp [scal]) [want_some q46_3g2, h1]
  · by_cases h2 : 50 < x
    · simp (maxSteps := 1000000) (disch := first | omega | decide | assumption | simp [scal]) [want_some q46_3g2, h1, h2]
    · simp (maxSteps := 1000000) (disch := first | omega | decide | assumption | simp [scal]) [want_some q46_3g2, h1, h2]
section
variable (c : Nat) {cs : List Value} {own : Bool} {p : List Int} (hp : PoC cs p) (h60 : p.length ≤ 60)
include hp h60
theorem l73 : ∀ (q i : Nat), i + q = p.length → ((p.drop i).any badC = true → ∃ j : Nat, j ≤ 60 ∧ lpB Try.prog LL ⟨73, 19, 1, none⟩ n73_6 n73_7 ⟨[(0, sl 0 0 p.length c), (1, .func (.func 46) #[] #[]), (7, iv p.length), (8, iv i)], [.cells cs 1 true own], []⟩ =
      some (.ret, ⟨[(4, iv j)], [.cells cs 1 true own], []⟩)) ∧ ((p.drop i).any badC = false → lpB Try.prog LL ⟨73, 19, 1, none⟩ n73_6 n73_7 ⟨[(0, sl 0 0 p.length c), (1, .func (.func 46) #[] #[]), (7, iv p.length), (8, iv i)], [.cells cs 1 true own], []⟩ =
      some (.exit 0, ⟨[], [.cells cs 1 true own], []⟩)) := by
  intro q
  induction q with
  | zero =>
    intro i hi
    obtain rfl : i = p.length := by omega
    rw [List.drop_length]
    refine ⟨fun h => by simp at h, fun _ => ?_⟩
    rw [lpB_eq]
    simp (maxSteps := 1000000) (disch := first | omega | decide | assumption | simp [scal]) [lenA_sl lk_22, o_indexAddrS es_22, loadA_eq ia_3]
  | succ q ih =>
    intro i hi
    have e0 : i < p.length := by omega
    have e1 : (i : Int) < p.length := by omega
    have p1 := hp i e0
    have hx : p.getD i 0 = p[i] := by simp [e0]
    obtain ⟨ih1, ih2⟩ := ih (i + 1) (by omega)
    rw [List.drop_eq_getElem_cons e0, List.any_cons, ← hx]
    have a46 := fun h => k46 (p.getD i 0) h
    simp only [cast1] at ih1 ih2
    clear ih hx
    generalize p.getD i 0 = x at *
    cases hb : badC x
    · rw [hb] at a46
      simp only [Bool.false_or]
      refine ⟨fun h => ?_, fun h => ?_⟩
      · obtain ⟨j, hj, this⟩ := ih1 h
        refine ⟨j, hj, ?_⟩
        rw [lpB_eq]
        simp (maxSteps := 1000000) (disch := first | omega | decide | assumption | simp [scal]) [lenA_sl lk_22, o_indexAddrS es_22, loadA_eq ia_3, e0, e1, p1, a46, this]
      · have this := ih2 h
        rw [lpB_eq]
        simp (maxSteps := 1000000) (disch := first | omega | decide | assumption | simp [scal]) [lenA_sl lk_22, o_indexAddrS es_22, loadA_eq ia_3, e0, e1, p1, a46, this]
    · rw [hb] at a46
      simp only [Bool.true_or]
      refine ⟨fun _ => ⟨i, by omega, ?_⟩, fun h => by cases h⟩
      rw [lpB_eq]
      simp (maxSteps := 1000000) (disch := first | omega | decide | assumption | simp [scal]) [lenA_sl lk_22, o_indexAddrS es_22, loadA_eq ia_3, e0, e1, p1, a46]
end
section
variable (b c : Nat) {cs : List Value} {own : Bool} {p : List Int} {h : List Blk} (hb : h[b]? = some (.cells cs 1 true own)) (hp : PoC cs p)
include hb hp
theorem k45 (h60 : p.length ≤ 60) : callH LL 45 [sl b 0 p.length c, .func (.func 46) #[] #[]] h = some ⟨.bool (p.any badC), h, [b], []⟩ := by
  have a73 : ∀ R, ∃ j : Int, (p.any badC = decide (0 ≤ j)) ∧ callH LL 73 [sl 0 0 p.length c, .func (.func 46) #[] #[]] (.cells cs 1 true own :: R) = some ⟨iv j, .cells cs 1 true own :: R, [0], []⟩ := by
    intro R
    have l := l73 c (own := own) hp h60 p.length 0 (by omega)
    rw [List.drop_zero] at l
    simp only [Int.natCast_zero] at l
    cases ha : p.any badC
    · have this := l.2 ha
      refine ⟨-1, by decide, callH_1 rfl rfl noIdB_flat (args' := [sl 0 0 p.length c, .func (.func 46) #[] #[]]) (by simp [renV, dep, optAll, idx, nbeq, renFn, renL]) (go (by decide) ?_) fun _ => rfl⟩
      rw [run73 _ _ _ (by simp)]
      simp (maxSteps := 1000000) (disch := first | omega | decide | assumption | simp [scal]) [lenA_sl lk_22, o_indexAddrS es_22, loadA_eq ia_3, this]
    · obtain ⟨j, hj, this⟩ := l.1 ha
      refine ⟨j, by simp, callH_1 rfl rfl noIdB_flat (args' := [sl 0 0 p.length c, .func (.func 46) #[] #[]]) (by simp [renV, dep, optAll, idx, nbeq, renFn, renL]) (go (by decide) ?_) fun _ => rfl⟩
      rw [run73 _ _ _ (by simp)]
      simp (maxSteps := 1000000) (disch := first | omega | decide | assumption | simp [scal]) [lenA_sl lk_22, o_indexAddrS es_22, loadA_eq ia_3, this]
  refine callH_1 rfl hb noIdB_flat (args' := [sl 0 0 p.length c, .func (.func 46) #[] #[]]) (by simp [renV, dep, optAll, idx, nbeq, renFn, renL]) (go (by decide) ?_) fun _ => rfl
  obtain ⟨j, hj, a⟩ := a73 []
  rw [hj, run45 _ _ _ (by simp)]
  by_cases h1 : 0 ≤ j
  · simp (maxSteps := 1000000) (disch := first | omega | decide | assumption | simp [scal]) [a, h1]
  · simp (maxSteps := 1000000) (disch := first | omega | decide | assumption | simp [scal]) [a, h1]
end
/-- the error of a polynomial -/
def chkE (p : List Int) : Int := if p.length = 0 then 2 else if 4 < p.length then 3 else if p.any badC = true then 1 else if p.length = 1 ∨ lst p = 0 then 15 else 0
section
variable (b c : Nat) {cs : List Value} {own : Bool} {p : List Int} {h : List Blk} (hb : h[b]? = some (.cells cs 1 true own)) (hp : PoC cs p)
include hb hp
theorem k21 (hl : p.length ≤ 4000000000) : callH LL 21 [sl b 0 p.length c] h = some ⟨iv (chkE p), h, [b], []⟩ := by
  refine callH_1 rfl hb noIdB_flat (args' := [sl 0 0 p.length c]) (by simp [renV, dep, optAll, idx, nbeq]) (go (by decide) ?_) fun _ => rfl
  rw [run21 _ _ _ (by simp)]
  unfold chkE
  by_cases h1 : p.length = 0
  · have h1' : (p.length : Int) = 0 := by omega
    simp (maxSteps := 1000000) (disch := first | omega | decide | assumption | simp [scal]) [lenA_sl lk_22, o_indexAddrS es_22, loadA_eq ia_3, want_some q21_23g3, h1, h1']
  · have h1' : ¬ (p.length : Int) = 0 := by omega
    by_cases h2 : 4 < p.length
    · have h2' : (4 : Int) < p.length := by omega
      simp (maxSteps := 1000000) (disch := first | omega | decide | assumption | simp [scal]) [lenA_sl lk_22, o_indexAddrS es_22, loadA_eq ia_3, want_some q21_23g3, h1, h1', h2, h2']
    · have h2' : ¬ (4 : Int) < p.length := by omega
      have a45 := k45 0 c (h := [.cells cs 1 true own]) rfl hp (by omega)
      cases h3 : p.any badC
      · rw [h3] at a45
        by_cases h4 : p.length = 1
        · have h4' : (p.length : Int) = 1 := by omega
          rw [h4] at a45
          simp (maxSteps := 1000000) (disch := first | omega | decide | assumption | simp [scal]) [lenA_sl lk_22, o_indexAddrS es_22, loadA_eq ia_3, want_some q21_23g3, h1, h1', h2, h2', a45, h4, h4']
        · have h4' : ¬ (p.length : Int) = 1 := by omega
          have p1 := hp (p.length - 1) (by omega)
          rw [show p.getD (p.length - 1) 0 = lst p from rfl] at p1
          obtain ⟨m, hm⟩ : ∃ m, p.length = m + 1 := ⟨p.length - 1, by omega⟩
          have e1 : ((m + 1 : Nat) : Int) - 1 = m := by omega
          have e2 : m < m + 1 := by omega
          have e3 : (m : Int) < (m : Int) + 1 := by omega
          have e4 : m ≤ 59 := by omega
          have e5 : ¬ m = 0 := by omega
          have e6 : ¬ (m : Int) = 0 := by omega
          have e7 : ¬ (4 : Int) < (m : Int) + 1 := by omega
          have e8 : ¬ 4 < m + 1 := by omega
          have e9 : ¬ (m : Int) + 1 = 1 := by omega
          have e10 : ¬ (m : Int) + 1 = 0 := by omega
          rw [hm] at a45 p1 ⊢
          rw [Nat.add_sub_cancel] at p1
          simp only [cast1] at e1 ⊢
          clear h1 h1' h2 h2' h4 h4' hb hp hl hm
          by_cases h5 : lst p = 0
          · rw [h5] at p1
            simp (maxSteps := 1000000) (disch := first | omega | decide | assumption | simp [scal]) [lenA_sl lk_22, o_indexAddrS es_22, loadA_eq ia_3, want_some q21_23g3, e1, e2, e3, e5, e6, e7, e8, e9, e10, a45, p1, h5]
          · generalize lst p = x at *
            simp (maxSteps := 1000000) (disch := first | omega | decide | assumption | simp [scal]) [lenA_sl lk_22, o_indexAddrS es_22, loadA_eq ia_3, want_some q21_23g3, e1, e2, e3, e5, e6, e7, e8, e9, e10, a45, p1, h5]
      · rw [h3] at a45
        simp (maxSteps := 1000000) (disch := first | omega | decide | assumption | simp [scal]) [lenA_sl lk_22, o_indexAddrS es_22, loadA_eq ia_3, want_some q21_23g3, h1, h1', h2, h2', a45]
end
end Go.Proofs.Ytkmompbfcgjgmaa.nt
namespace Go.Proofs.Ytkmompbfcgjgmaa.nt
open Go.GE
set_option linter.unusedVariables false
set_option linter.unusedSimpArgs false
set_option linter.unusedSectionVars false
set_option maxRecDepth 100000
set_option maxHeartbeats 4000000
def vAt (S : List (List Int)) (x y : Int) : Nat := chN (S.map fun q => sgP q x y) 0 0
def evA (S : List (List Int)) (x y : Int) : Bool := S.all fun q => evB x y q.reverse 0 1 && Nat.ble 1 q.length && Nat.ble q.length 60
theorem evA_mem {S : List (List Int)} {x y : Int} (h : evA S x y = true) {q : List Int} (hq : q ∈ S) : evB x y q.reverse 0 1 = true ∧ 0 < q.length ∧ q.length ≤ 60 := by
  have := List.all_eq_true.1 h q hq
  simp only [Bool.and_eq_true] at this
  exact ⟨this.1.1, Nat.le_of_ble_eq_true this.1.2, Nat.le_of_ble_eq_true this.2⟩
theorem stu_eq {p : List Int} : stu p = bif Nat.beq (lea (slp (cor p))).length 1 then [cor p, lea (slp (cor p))] else bif Nat.beq (nxt (cor p) (lea (slp (cor p)))).length 1 then [cor p, lea (slp (cor p)), nxt (cor p) (lea (slp (cor p)))] else [cor p, lea (slp (cor p)), nxt (cor p) (lea (slp (cor p))), nxt (lea (slp (cor p))) (nxt (cor p) (lea (slp (cor p))))] := rfl
theorem stu_cases {p : List Int} (hB : stuB p = true) : (∃ q1 q2, stu p = [q1, q2]) ∨ (∃ q1 q2 q3, stu p = [q1, q2, q3]) ∨ ∃ q1 q2 q3 q4, stu p = [q1, q2, q3, q4] := by
  rw [stu_eq]
  cases Nat.beq (lea (slp (cor p))).length 1
  · rw [cond_false]
    cases h : Nat.beq (nxt (cor p) (lea (slp (cor p)))).length 1
    · rw [cond_false]; exact .inr (.inr ⟨_, _, _, _, rfl⟩)
    · rw [cond_true]; exact .inr (.inl ⟨_, _, _, rfl⟩)
  · rw [cond_true]; exact .inl ⟨_, _, rfl⟩
end Go.Proofs.Ytkmompbfcgjgmaa.nt
namespace Go.Proofs.Ytkmompbfcgjgmaa.nt
open Go.GE
set_option linter.unusedVariables false
set_option linter.unusedSimpArgs false
set_option linter.unusedSectionVars false
set_option maxRecDepth 100000
set_option maxHeartbeats 4000000
/-- a polynomial and its derivatives -/
def fou (p : List Int) : List (List Int) := bif Nat.beq p.length 2 then [p, slp p] else bif Nat.beq p.length 3 then [p, slp p, slp (slp p)] else [p, slp p, slp (slp p), slp (slp (slp p))]
def fouB (p : List Int) : Bool := Nat.ble 2 p.length && Nat.ble p.length 4 && allB (slp p) && allB (slp (slp p)) && allB (slp (slp (slp p)))
end Go.Proofs.Ytkmompbfcgjgmaa.nt
namespace Go.Proofs.Ytkmompbfcgjgmaa.nt
open Go.GE
set_option linter.unusedVariables false
set_option linter.unusedSimpArgs false
set_option linter.unusedSectionVars false
set_option maxRecDepth 100000
set_option maxHeartbeats 4000000
attribute [local simp] runOps_nil runOps_cons runOpsF_nil runOpsF_cons fstS_some fstF_some opStep_eq want_none oStep_true oStep_false fin_pure fin_read fin_alloc fin_write storeB wrN cellV addWr o_move o_assign o_pick o_alloc o_box o_load o_store o_nilCheck o_bin o_un o_extract o_callV o_callB o_callI callV_f callV_y callV_fc o_makeFunc partsA Instr.fill builtin_len builtin_max2 bin_add bin_sub bin_mul bin_quo bin_rem bin_lss bin_leq bin_gtr bin_geq bin_eql bin_neq un_neg un_not bin_shr bin_shl wrap_u64_id opd opds optAll putO nbeq nblt constOk isC ops sub cl cr co bodyOf thenS_normal thenS_ret thenS_exit thenS_goto afterN_normal afterN_ret afterN_exit afterN_goto condS_true condS_false blockS_normal blockS_ret blockS_exit blockS_goto headS normS normK_eq fixS_nil fixS_cons fix1 fixV emptyB keepO_nil keepO_cons roundC_normal roundC_exit roundC_ret roundC_goto sweep_eq sweepD rnm pickR pickW rootsB ptrT renT ptrFn renFn ptrB_flat ptrB_non renB_flat renB_non plainS_some drawS_some fpsOk disj unord range' dropTo enumT undef wrap_i64_id Value.cells mkCells ptrTo scal cellsAt rdN endS_ret resultsA Option.bind_some tupV finish reachN dep ptrL_eq ptrL renL_eq renL ptrV_bool ptrV_int ptrV_string ptrV_nilFunc ptrV_nilIface ptrV_nilPtr ptrV_ptr ptrV_nilSl ptrV_sl ptrV_iface ptrV_agg ptrV_tuple ptrV_func renV_bool renV_int renV_string renV_nilFunc renV_nilIface renV_nilPtr renV_ptr renV_nilSl renV_sl renV_iface renV_agg renV_tuple renV_func gotoS_goto gotoS_normal gotoS_exit gotoS_ret skip_seq sliceE bnd bndHi intOf optOpd keepT_nil keepT_cons keepC_t keepC_f lk_nil lk_cons lkC_t lkC_f has_nil has_cons hasC_t hasC_f rep_nil rep_cons repC_t repC_f put_eq putC_t putC_f mem_nil mem_cons memC_t memC_f idx_nil idx_cons idxC_t idxC_f reach_nil reachP_cons reachQ_t reachQ_f ptrB_dead renB_dead ins_eq
attribute [local simp] n35_1s n35_3s n35_4s n35_2s n35_0s Try.f35 n33_1s n33_3s n33_4s n33_2s n33_0s Try.f33
abbrev bv (n : Int) : Value := .int .i8 n
def I8 (v : Int) : Prop := -128 ≤ v ∧ v < 128
theorem bin_andi1 {P : Program} {t : TypeId} {c : Bool} {v : Int} : binA P .and t c (.int .i64 v) (.int .i64 1) = some (.int .i64 (v % 2)) := by
  have e : (((BitVec.ofInt 64 v &&& BitVec.ofInt 64 1).toNat : Nat) : Int) = v % 2 := by
    rw [show BitVec.ofInt 64 1 = BitVec.ofNat 64 1 from rfl, BitVec.toNat_and, BitVec.toNat_ofNat, Nat.mod_eq_of_lt (by decide : 1 < 2 ^ 64), Nat.and_one_is_mod, BitVec.toNat_ofInt]
    omega
  have e' : IntKind.i64.wrap ((BitVec.ofInt 64 v &&& BitVec.ofInt 64 1).toNat : Int) = v % 2 := by rw [e]; exact wrap_i64_id (by omega) (by omega)
  show some (Value.int .i64 (IntKind.i64.wrap ((BitVec.ofInt 64 v &&& BitVec.ofInt 64 1).toNat : Int))) = _
  rw [e']
theorem k35 (a b : Int) (h : List Blk) : callH LL 35 [iv a, iv b] h = some ⟨.agg #[iv a, iv b], h, [], []⟩ := by
  refine callH_none rfl (fun _ => rfl) (go (by decide) ?_) fun _ => rfl
  rw [run35 _ _ _ (by simp)]
  simp (maxSteps := 1000000) (disch := first | omega | decide | assumption | simp [scal]) [za_24, o_build za_24 pl_24, sz_24, loadA_eq ia_24]
/-- at most -/
def leR (a b : Int × Int) : Bool := decide (a.1 * b.2 ≤ b.1 * a.2)
theorem k33 (a b u v : Int) (h1 : Sm (a * v)) (h2 : Sm (u * b)) (h : List Blk) : callH LL 33 [.agg #[iv a, iv b], .agg #[iv u, iv v]] h = some ⟨.bool (leR (a, b) (u, v)), h, [], []⟩ := by
  refine callH_none rfl (fun _ => rfl) (go (by decide) ?_) fun _ => rfl
  have w1 := h1.w
  have w2 := h2.w
  clear h1 h2
  unfold leR
  rw [run33 _ _ _ (by simp)]
  by_cases h3 : a * v ≤ u * b
  · simp (maxSteps := 1000000) (disch := first | omega | decide | assumption | simp [scal]) [o_fieldAddr fa_24_0 (by decide), loadA_eq ia_3, o_fieldAddr fa_24_1 (by decide), w1, w2, h3]
  · simp (maxSteps := 1000000) (disch := first | omega | decide | assumption | simp [scal]) [o_fieldAddr fa_24_0 (by decide), loadA_eq ia_3, o_fieldAddr fa_24_1 (by decide), w1, w2, h3]
theorem tmod_bd {a : Int} (m : Int) (hm : 0 < m) : -m < a.tmod m ∧ a.tmod m < m := by
  have h1 := Int.tmod_lt_of_pos a hm
  have h2 := Int.lt_tmod_of_pos a hm
  omega
end Go.Proofs.Ytkmompbfcgjgmaa.nt
namespace Go.Proofs.Ytkmompbfcgjgmaa.nt
open Go.GE
set_option linter.unusedVariables false
set_option linter.unusedSimpArgs false
set_option linter.unusedSectionVars false
set_option maxRecDepth 100000
set_option maxHeartbeats 4000000
attribute [local simp] runOps_nil runOps_cons runOpsF_nil runOpsF_cons fstS_some fstF_some opStep_eq want_none oStep_true oStep_false fin_pure fin_read fin_alloc fin_write storeB wrN cellV addWr o_move o_assign o_pick o_alloc o_box o_load o_store o_nilCheck o_bin o_un o_extract o_callV o_callB o_callI callV_f callV_y callV_fc o_makeFunc partsA Instr.fill builtin_len builtin_max2 bin_add bin_sub bin_mul bin_quo bin_rem bin_lss bin_leq bin_gtr bin_geq bin_eql bin_neq un_neg un_not bin_shr bin_shl wrap_u64_id opd opds optAll putO nbeq nblt constOk isC ops sub cl cr co bodyOf thenS_normal thenS_ret thenS_exit thenS_goto afterN_normal afterN_ret afterN_exit afterN_goto condS_true condS_false blockS_normal blockS_ret blockS_exit blockS_goto headS normS normK_eq fixS_nil fixS_cons fix1 fixV emptyB keepO_nil keepO_cons roundC_normal roundC_exit roundC_ret roundC_goto sweep_eq sweepD rnm pickR pickW rootsB ptrT renT ptrFn renFn ptrB_flat ptrB_non renB_flat renB_non plainS_some drawS_some fpsOk disj unord range' dropTo enumT undef wrap_i64_id Value.cells mkCells ptrTo scal cellsAt rdN endS_ret resultsA Option.bind_some tupV finish reachN dep ptrL_eq ptrL renL_eq renL ptrV_bool ptrV_int ptrV_string ptrV_nilFunc ptrV_nilIface ptrV_nilPtr ptrV_ptr ptrV_nilSl ptrV_sl ptrV_iface ptrV_agg ptrV_tuple ptrV_func renV_bool renV_int renV_string renV_nilFunc renV_nilIface renV_nilPtr renV_ptr renV_nilSl renV_sl renV_iface renV_agg renV_tuple renV_func gotoS_goto gotoS_normal gotoS_exit gotoS_ret skip_seq sliceE bnd bndHi intOf optOpd keepT_nil keepT_cons keepC_t keepC_f lk_nil lk_cons lkC_t lkC_f has_nil has_cons hasC_t hasC_f rep_nil rep_cons repC_t repC_f put_eq putC_t putC_f mem_nil mem_cons memC_t memC_f idx_nil idx_cons idxC_t idxC_f reach_nil reachP_cons reachQ_t reachQ_f ptrB_dead renB_dead ins_eq
attribute [local simp] n61_1s n61_3s n61_6s n61_10s n61_13s n61_14s n61_12s n61_18s n61_20s n61_24s n61_27s n61_28s n61_26s n61_32s n61_33s n61_31s n61_30s n61_34s n61_29s n61_25s n61_23s n61_22s n61_22g n61_21s n61_19s n61_17s n61_16s n61_35s n61_15s n61_11s n61_9s n61_8s n61_8g n61_7s n61_5s n61_37s n61_38s n61_36s n61_4s n61_2s n61_0s Try.f61
def pmL (p : List Int) (b1 : Int) (j : Nat) : Int := if j = 0 then 0 else p.getD (j - 1) 0 * b1
def mulP (p : List Int) (b0 b1 : Int) : List Int := (List.range (p.length + 1)).map fun j => pmL p b1 j + p.getD j 0 * b0
theorem mulP_len {p : List Int} {b0 b1 : Int} : (mulP p b0 b1).length = p.length + 1 := by simp [mulP]
def mp2 (p : List Int) (b0 b1 : Int) (i : Nat) : List Value := (List.range (p.length + 1)).map fun j => iv (if j < i then pmL p b1 j + p.getD j 0 * b0 else if j = i then pmL p b1 j else 0)
theorem mp2_len {p : List Int} {b0 b1 : Int} {i : Nat} : (mp2 p b0 b1 i).length = p.length + 1 := by simp [mp2]
theorem mp2_at {p : List Int} {b0 b1 : Int} {i : Nat} (h : i < p.length) : (mp2 p b0 b1 i)[i]? = some (iv (pmL p b1 i)) ∧ (mp2 p b0 b1 i)[i + 1]? = some (iv 0) := by
  constructor
  · simp only [mp2, List.getElem?_map, List.getElem?_range (show i < p.length + 1 by omega), Option.map_some]
    rw [if_neg (by omega), if_pos trivial]
  · simp only [mp2, List.getElem?_map, List.getElem?_range (show i + 1 < p.length + 1 by omega), Option.map_some]
    rw [if_neg (by omega), if_neg (by omega)]
theorem mp2_set {p : List Int} {b0 b1 : Int} {i : Nat} (h : i < p.length) : ((mp2 p b0 b1 i).set i (iv (pmL p b1 i + p.getD i 0 * b0))).set (i + 1) (iv (0 + p.getD i 0 * b1)) = mp2 p b0 b1 (i + 1) := by
  apply List.ext_getElem?
  intro j
  rw [List.getElem?_set, List.length_set, mp2_len]
  by_cases hj : i + 1 = j
  · subst hj
    rw [if_pos rfl, if_pos (by omega)]
    simp only [mp2, List.getElem?_map, List.getElem?_range (show i + 1 < p.length + 1 by omega), Option.map_some]
    rw [if_neg (by omega), if_pos trivial]
    simp [pmL]
  · rw [if_neg hj, List.getElem?_set, mp2_len]
    by_cases hi : i = j
    · subst hi
      rw [if_pos rfl, if_pos (by omega)]
      simp only [mp2, List.getElem?_map, List.getElem?_range (show i < p.length + 1 by omega), Option.map_some]
      rw [if_pos (by omega)]
    · rw [if_neg hi]
      by_cases hn : j < p.length + 1
      · simp only [mp2, List.getElem?_map, List.getElem?_range hn, Option.map_some]
        by_cases h1 : j < i
        · rw [if_pos h1, if_pos (by omega)]
        · rw [if_neg h1, if_neg (by omega), if_neg (by omega), if_neg (by omega)]
      · rw [List.getElem?_eq_none (by rw [mp2_len]; omega), List.getElem?_eq_none (by rw [mp2_len]; omega)]
theorem mp2_zero {p : List Int} {b0 b1 : Int} : mp2 p b0 b1 0 = List.replicate (p.length + 1) (iv 0) := by
  apply List.ext_getElem?
  intro j
  by_cases hn : j < p.length + 1
  · simp only [mp2, List.getElem?_map, List.getElem?_range hn, Option.map_some, List.getElem?_replicate, hn, if_true, Nat.not_lt_zero, if_false]
    by_cases h : j = 0
    · simp [h, pmL]
    · simp [h]
  · rw [List.getElem?_eq_none (by rw [mp2_len]; omega), List.getElem?_eq_none (by simp; omega)]
theorem mp2_full {p : List Int} {b0 b1 : Int} : mp2 p b0 b1 p.length = zm (mulP p b0 b1) := by
  simp only [mp2, zm, mulP, List.map_map]
  refine List.map_congr_left fun j hj => ?_
  rw [List.mem_range] at hj
  simp only [Function.comp]
  by_cases h : j < p.length
  · rw [if_pos h]
  · obtain rfl : j = p.length := by omega
    rw [if_neg (by omega), if_pos rfl]
    simp
section
variable (c : Nat) {cs : List Value} {own : Bool} {p : List Int} (hp : PoC cs p) (h60 : p.length ≤ 50) (b0 b1 : Int) (hs0 : ∀ i, i < p.length → Sm (p.getD i 0 * b0) ∧ Sm (p.getD i 0 * b1) ∧ Sm (pmL p b1 i + p.getD i 0 * b0))
include hp h60 hs0
theorem l61i (i : Nat) (hi : i < p.length) :
    lpB Try.prog LL ⟨61, 45, 2, none⟩ n61_22 n61_23 ⟨[(6, iv i), (7, iv (p.getD i 0)), (24, sl 1 0 2 2), (25, iv 2), (26, iv 0), (1, sl 1 0 2 2), (5, sl 2 0 (p.length + 1) (p.length + 1)), (17, sl 0 0 p.length c), (18, iv p.length), (19, iv i)], [.cells cs 1 true own, .cells [iv b0, iv b1] 1 true true, .cells (mp2 p b0 b1 i) 1 true true], []⟩ =
      some (.exit 2, ⟨[(1, sl 1 0 2 2), (5, sl 2 0 (p.length + 1) (p.length + 1)), (17, sl 0 0 p.length c), (18, iv p.length), (19, iv i)], [.cells cs 1 true own, .cells [iv b0, iv b1] 1 true true, .cells (mp2 p b0 b1 (i + 1)) 1 true true], []⟩) := by
  obtain ⟨g1, g2⟩ := mp2_at (b0 := b0) (b1 := b1) hi
  have hset := mp2_set (b0 := b0) (b1 := b1) hi
  have hl := mp2_len (p := p) (b0 := b0) (b1 := b1) (i := i)
  obtain ⟨s1, s2, s3⟩ := hs0 i hi
  have w1 := s1.w
  have w2 := s2.w
  have w3 := s3.w
  rw [← hset]
  clear hset s1 s2 s3 hs0
  generalize mp2 p b0 b1 i = M at *
  generalize pmL p b1 i = y at *
  generalize p.getD i 0 = x at *
  have e1 : i < p.length + 1 := by omega
  have e2 : (i : Int) < (p.length : Int) + 1 := by omega
  have e3 : IntKind.i64.wrap (i : Int) = i := wrap_i64_id (by omega) (by omega)
  have e4 : IntKind.i64.wrap ((i : Int) + 1) = (i : Int) + 1 := wrap_i64_id (by omega) (by omega)
  have e5 : (i : Int) + 1 < (p.length : Int) + 1 := by omega
  have e6 : i + 1 < p.length + 1 := by omega
  have e7 : ((i : Int) + 1).toNat = i + 1 := by omega
  have e8 : 0 ≤ (i : Int) + 1 := by omega
  have g1' : ∀ h, M[i]'h = iv y := fun h => by rw [List.getElem?_eq_getElem h] at g1; exact Option.some.inj g1
  have g3 : ∀ v, (M.set i v)[i + 1]? = some (iv 0) := fun v => by rw [List.getElem?_set_ne (by omega)]; exact g2
  have g3' : ∀ v h, (M.set i v)[i + 1]'h = iv 0 := fun v h => by have := g3 v; rw [List.getElem?_eq_getElem h] at this; exact Option.some.inj this
  have g4 : ∀ h, M[i + 1]'h = iv 0 := fun h => by rw [List.getElem?_eq_getElem h] at g2; exact Option.some.inj g2
  have w2' : IntKind.i64.wrap (0 + x * b1) = x * b1 := by rw [Int.zero_add]; exact w2
  have hl2 : ∀ v, (M.set i v).length = p.length + 1 := fun v => by rw [List.length_set]; exact hl
  rw [Int.zero_add]
  rw [lpB_eq]
  simp (maxSteps := 1000000) (disch := first | omega | decide | assumption | simp [scal]) [lenA_sl lk_22, o_indexAddrS es_22, loadA_eq ia_3, sz_3, e1, e2, e3, e5, e6, g1, g1', w1, w3, hl]
  rw [lpB_eq]
  simp (maxSteps := 1000000) (disch := first | omega | decide | assumption | simp [scal]) [lenA_sl lk_22, o_indexAddrS es_22, loadA_eq ia_3, sz_3, e1, e2, e3, e4, e5, e6, e7, e8, g2, g3, g3', g4, w2, w2', hl, hl2]
  rw [lpB_eq]
  simp (maxSteps := 1000000) (disch := first | omega | decide | assumption | simp [scal]) [lenA_sl lk_22, o_indexAddrS es_22, loadA_eq ia_3, sz_3]
theorem l61 : ∀ (q i : Nat), i + q = p.length →
    lpB Try.prog LL ⟨61, 45, 2, none⟩ n61_8 n61_9 ⟨[(1, sl 1 0 2 2), (5, sl 2 0 (p.length + 1) (p.length + 1)), (17, sl 0 0 p.length c), (18, iv p.length), (19, iv i)], [.cells cs 1 true own, .cells [iv b0, iv b1] 1 true true, .cells (mp2 p b0 b1 i) 1 true true], []⟩ =
      some (.exit 0, ⟨[(5, sl 2 0 (p.length + 1) (p.length + 1))], [.cells cs 1 true own, .cells [iv b0, iv b1] 1 true true, zB (mulP p b0 b1)], []⟩) := by
  intro q
  induction q with
  | zero =>
    intro i hi
    obtain rfl : i = p.length := by omega
    rw [mp2_full]
    simp only [zB]
    generalize zm (mulP p b0 b1) = X
    rw [lpB_eq]
    simp (maxSteps := 1000000) (disch := first | omega | decide | assumption | simp [scal]) [lenA_sl lk_22, o_indexAddrS es_22, loadA_eq ia_3, sz_3]
  | succ q ih =>
    intro i hi
    have e0 : i < p.length := by omega
    have e1 : (i : Int) < p.length := by omega
    have this := ih (i + 1) (by omega)
    have li := l61i c (own := own) hp h60 b0 b1 hs0 i e0
    have p1 := hp i e0
    simp only [cast1] at this
    clear ih hs0
    generalize mp2 p b0 b1 i = M at *
    generalize mp2 p b0 b1 (i + 1) = M2 at *
    generalize p.getD i 0 = x at *
    rw [lpB_eq]
    simp (maxSteps := 1000000) (disch := first | omega | decide | assumption | simp [scal]) [lenA_sl lk_22, o_indexAddrS es_22, loadA_eq ia_3, sz_3, e0, e1, p1, li, this]
end
theorem mk22 {σ : Tm} {h : List Blk} {d : Option Nat} {ty : TypeId} {pos : String} {af : Array Edge} {g : Option (Nat × Bool)} {x y : Operand} : aop Try.prog LL σ h ⟨d, .makeSlice 22 x y, ty, pos, af, g⟩ = (match opd σ x, opd σ y with
    | some (.int _ n), some (.int _ k) => if 0 ≤ n ∧ n ≤ k ∧ k * 8 ≤ 70368744177664 ∧ k ≤ 70368744177664 then allocR h (.cells (List.replicate k.toNat (iv 0)) 1 true true) fun b => .slice (some ⟨b, 0, none⟩) n.toNat k.toNat else none
    | _, _ => none) := by
  have e1 : Try.prog.underlying 22 = some (.slice 3) := by kernel_rfl
  have e2 : (Try.prog.info? 3).map (fun i => (i.bytes, i.size)) = some (8, 1) := by kernel_rfl
  have e3 : zeroA Try.prog 3 = some (iv 0) := by kernel_rfl
  obtain ⟨i, hi, hp⟩ := Option.map_eq_some_iff.1 e2
  obtain ⟨h8, h1⟩ := Prod.mk.inj hp
  have hfl : ∀ k : Nat, (List.replicate k [iv 0]).flatten = List.replicate k (iv 0) := fun k => List.flatten_replicate_singleton
  simp only [aop, e1, e2, e3, hi, h8, h1]
  cases opd σ x with
  | none => rfl
  | some v =>
    cases v <;> try rfl
    cases opd σ y with
    | none => rfl
    | some w =>
      cases w <;> try rfl
      rename_i k1 n k2 m
      simp only [e3, hi, h8, h1]
      by_cases hc : 0 ≤ n ∧ n ≤ m ∧ m * 8 ≤ 70368744177664 ∧ m ≤ 70368744177664
      · rw [if_pos hc, if_pos ⟨hc.1, hc.2.1, by have := hc.2.2.1; omega, by have := hc.2.2.2; omega, by decide, rfl⟩]
        show allocR h (.cells ((List.replicate m.toNat [iv 0]).flatten) 1 true true) _ = _
        rw [hfl]
      · rw [if_neg hc, if_neg (fun h => hc ⟨h.1, h.2.1, by have := h.2.2.1; omega, by have := h.2.2.2.1; omega⟩)]
section
variable (b b2 c : Nat) {cs : List Value} {own : Bool} {p : List Int} {h : List Blk} (b0 b1 : Int) (hb : h[b]? = some (.cells cs 1 true own)) (hb2 : h[b2]? = some (.cells [iv b0, iv b1] 1 true true)) (hne : b ≠ b2) (hp : PoC cs p)
include hb hb2 hne hp
theorem k61 (h60 : p.length ≤ 50) (hs0 : ∀ i, i < p.length → Sm (p.getD i 0 * b0) ∧ Sm (p.getD i 0 * b1) ∧ Sm (pmL p b1 i + p.getD i 0 * b0)) : callH LL 61 [sl b 0 p.length c, sl b2 0 2 2] h = some ⟨sl h.length 0 (p.length + 1) (p.length + 1), h ++ [zB (mulP p b0 b1)], [b, b2], []⟩ := by
  have hne' : ¬ b2 = b := fun e => hne e.symm
  refine callN_2 rfl hb hb2 hne noIdB_flat noIdB_flat (args' := [sl 0 0 p.length c, sl 1 0 2 2]) (by simp [renV, dep, optAll, idx, nbeq, hne, hne']) (v := sl 2 0 (p.length + 1) (p.length + 1)) (news := [zB (mulP p b0 b1)]) (go (by decide) ?_)
    (by intro blk hb; simp only [List.mem_singleton] at hb; subst hb; exact noIdB_flat) (by simp [renV, dep])
  have l := l61 c (own := own) hp h60 b0 b1 hs0 p.length 0 (by omega)
  rw [mp2_zero] at l
  have e1 : (p.length : Int) + 2 - 1 = (p.length : Int) + 1 := by omega
  have e2 : ((p.length : Int) + 1).toNat = p.length + 1 := by omega
  have e3 : 0 ≤ (p.length : Int) + 1 := by omega
  have e4 : ((p.length : Int) + 1) * 8 ≤ 70368744177664 := by omega
  have e5 : (p.length : Int) + 1 ≤ 70368744177664 := by omega
  simp only [zB, Int.natCast_zero] at l ⊢
  clear hs0
  generalize zm (mulP p b0 b1) = X at *
  rw [run61 _ _ _ (by simp)]
  simp (maxSteps := 1000000) (disch := first | omega | decide | assumption | simp [scal]) [lenA_sl lk_22, o_indexAddrS es_22, loadA_eq ia_3, sz_3, mk22, e1, e2, e3, e4, e5, l]
end
end Go.Proofs.Ytkmompbfcgjgmaa.nt
namespace Go.Proofs.Ytkmompbfcgjgmaa.nt
open Go.GE
set_option linter.unusedVariables false
set_option linter.unusedSimpArgs false
set_option linter.unusedSectionVars false
set_option maxRecDepth 100000
set_option maxHeartbeats 4000000
attribute [local simp] runOps_nil runOps_cons runOpsF_nil runOpsF_cons fstS_some fstF_some opStep_eq want_none oStep_true oStep_false fin_pure fin_read fin_alloc fin_write storeB wrN cellV addWr o_move o_assign o_pick o_alloc o_box o_load o_store o_nilCheck o_bin o_un o_extract o_callV o_callB o_callI callV_f callV_y callV_fc o_makeFunc partsA Instr.fill builtin_len builtin_max2 bin_add bin_sub bin_mul bin_quo bin_rem bin_lss bin_leq bin_gtr bin_geq bin_eql bin_neq un_neg un_not bin_shr bin_shl wrap_u64_id opd opds optAll putO nbeq nblt constOk isC ops sub cl cr co bodyOf thenS_normal thenS_ret thenS_exit thenS_goto afterN_normal afterN_ret afterN_exit afterN_goto condS_true condS_false blockS_normal blockS_ret blockS_exit blockS_goto headS normS normK_eq fixS_nil fixS_cons fix1 fixV emptyB keepO_nil keepO_cons roundC_normal roundC_exit roundC_ret roundC_goto sweep_eq sweepD rnm pickR pickW rootsB ptrT renT ptrFn renFn ptrB_flat ptrB_non renB_flat renB_non plainS_some drawS_some fpsOk disj unord range' dropTo enumT undef wrap_i64_id Value.cells mkCells ptrTo scal cellsAt rdN endS_ret resultsA Option.bind_some tupV finish reachN dep ptrL_eq ptrL renL_eq renL ptrV_bool ptrV_int ptrV_string ptrV_nilFunc ptrV_nilIface ptrV_nilPtr ptrV_ptr ptrV_nilSl ptrV_sl ptrV_iface ptrV_agg ptrV_tuple ptrV_func renV_bool renV_int renV_string renV_nilFunc renV_nilIface renV_nilPtr renV_ptr renV_nilSl renV_sl renV_iface renV_agg renV_tuple renV_func gotoS_goto gotoS_normal gotoS_exit gotoS_ret skip_seq sliceE bnd bndHi intOf optOpd keepT_nil keepT_cons keepC_t keepC_f lk_nil lk_cons lkC_t lkC_f has_nil has_cons hasC_t hasC_f rep_nil rep_cons repC_t repC_f put_eq putC_t putC_f mem_nil mem_cons memC_t memC_f idx_nil idx_cons idxC_t idxC_f reach_nil reachP_cons reachQ_t reachQ_f ptrB_dead renB_dead ins_eq
attribute [local simp] n31_1s n31_3s n31_5s n31_8s n31_11s n31_14s n31_16s n31_17s n31_15s n31_13s n31_18s n31_12s n31_10s n31_19s n31_9s n31_7s n31_22s n31_27s n31_29s n31_30s n31_28s n31_26s n31_34s n31_36s n31_38s n31_44s n31_46s n31_47s n31_45s n31_43s n31_49s n31_48s n31_42s n31_41s n31_41g n31_40s n31_50s n31_39s n31_37s n31_35s n31_33s n31_32s n31_51s n31_31s n31_25s n31_24s n31_24g n31_23s n31_21s n31_53s n31_56s n31_60s n31_63s n31_64s n31_62s n31_68s n31_71s n31_73s n31_74s n31_72s n31_70s n31_75s n31_69s n31_67s n31_66s n31_76s n31_65s n31_61s n31_59s n31_58s n31_58g n31_57s n31_55s n31_78s n31_79s n31_77s n31_54s n31_52s n31_20s n31_6s n31_4s n31_2s n31_0s Try.f31
abbrev uv (n : Nat) : Value := .int .u8 (n : Int)
abbrev shB (r0 s0 r1 s1 r2 s2 : Int) (n : Nat) (o : Bool) (g : Int) : Blk := .cells [bv r0, bv s0, bv r1, bv s1, bv r2, bv s2, uv n, .bool o, bv g] 1 true true
theorem app_r {h : List Blk} {b c l n : Nat} {cs new : List Value} {rd : List Nat} (hn : 0 < n) (hlen : cs.length = l * 2) (hb : l + n ≤ 100) (hnew : new.all cellV = true) :
    appS h 2 16 b 0 l c (some (.cells cs 2 true true)) (some (n, new, true, rd)) = some ⟨.slice (some ⟨h.length, 0, none⟩) (l + n) (l + n), h.set b .dead ++ [.cells (cs ++ new) 2 true true], b :: rd, [b]⟩ := by
  obtain ⟨k, rfl⟩ : ∃ k, n = k + 1 := ⟨n - 1, by omega⟩
  have hr := rdN_all cs (l * 2) 0 (by omega)
  simp only [appS, hr, List.drop_zero]
  rw [if_pos (by refine ⟨by omega, by omega, trivial, hnew⟩)]
  rfl
theorem app_z {h : List Blk} {b c l o : Nat} {blk : Option Blk} {new : List Value} {rd : List Nat} {fl : Bool} : appS h 2 16 b o l c blk (some (0, new, fl, rd)) = some ⟨.slice (some ⟨b, o, none⟩) l c, h, [], []⟩ := rfl
/-- coefficients no greater than M -/
def BdM (M : Int) (p : List Int) : Prop := ∀ i, -M ≤ p.getD i 0 ∧ p.getD i 0 ≤ M
theorem mul_M {M x b : Int} (hx : -M ≤ x ∧ x ≤ M) (hb : -3 ≤ b ∧ b ≤ 3) : -(3 * M) ≤ x * b ∧ x * b ≤ 3 * M := by
  rcases (by omega : b = -3 ∨ b = -2 ∨ b = -1 ∨ b = 0 ∨ b = 1 ∨ b = 2 ∨ b = 3) with rfl | rfl | rfl | rfl | rfl | rfl | rfl <;> omega
theorem mul_M2 {M x b : Int} (hx : -M ≤ x ∧ x ≤ M) (hb : 1 ≤ b ∧ b ≤ 2) : -(2 * M) ≤ x * b ∧ x * b ≤ 2 * M := by
  rcases (by omega : b = 1 ∨ b = 2) with rfl | rfl <;> omega
theorem pmL_M {M : Int} {p : List Int} (hp : BdM M p) (hM : 0 ≤ M) {b1 : Int} (hb : 1 ≤ b1 ∧ b1 ≤ 2) (j : Nat) : -(2 * M) ≤ pmL p b1 j ∧ pmL p b1 j ≤ 2 * M := by
  unfold pmL
  split
  · omega
  · exact mul_M2 (hp _) hb
theorem BdM_mul {M : Int} {p : List Int} (hp : BdM M p) (hM : 0 ≤ M) {b0 b1 : Int} (h0 : -3 ≤ b0 ∧ b0 ≤ 3) (h1 : 1 ≤ b1 ∧ b1 ≤ 2) : BdM (5 * M) (mulP p b0 b1) := by
  intro i
  by_cases hi : i < p.length + 1
  · have e : (mulP p b0 b1).getD i 0 = pmL p b1 i + p.getD i 0 * b0 := by simp [mulP, List.getD_eq_getElem?_getD, hi]
    rw [e]
    have := mul_M (hp i) h0
    have := pmL_M hp hM h1 i
    omega
  · have e : (mulP p b0 b1).getD i 0 = 0 := by rw [List.getD_eq_getElem?_getD, List.getElem?_eq_none (by rw [mulP_len]; omega)]; rfl
    rw [e]; omega
theorem BdM_ok {M : Int} {p : List Int} (hp : BdM M p) (hM : 0 ≤ M ∧ M ≤ 100000) {b0 b1 : Int} (h0 : -3 ≤ b0 ∧ b0 ≤ 3) (h1 : 1 ≤ b1 ∧ b1 ≤ 2) : ∀ i, i < p.length → Sm (p.getD i 0 * b0) ∧ Sm (p.getD i 0 * b1) ∧ Sm (pmL p b1 i + p.getD i 0 * b0) := by
  intro i _
  have e1 := mul_M (hp i) h0
  have e2 := mul_M2 (hp i) h1
  have e3 := pmL_M hp hM.1 h1 i
  unfold Sm
  omega
/-- a root is put in its place -/
def insR : List (Int × Int) → Int × Int → List (Int × Int)
  | [], r => [r]
  | a :: l, r => if a.1 * r.2 < r.1 * a.2 then a :: insR l r else r :: a :: l
def rtC (l : List (Int × Int)) : List Value := l.flatMap fun r => [iv r.1, iv r.2]
def okRt (r : Int × Int) : Prop := -3 ≤ r.1 ∧ r.1 ≤ 3 ∧ 1 ≤ r.2 ∧ r.2 ≤ 2
theorem rt_mul {r s : Int × Int} (hr : okRt r) (hs : okRt s) : IntKind.i64.wrap (r.1 * s.2) = r.1 * s.2 := by
  unfold okRt at hr hs
  have := mul_M2 (M := 3) (x := r.1) (b := s.2) (by omega) (by omega)
  exact wrap_i64_id (by omega) (by omega)
section
variable (r0 s0 r1 s1 r2 s2 : Int) (n : Nat) (o : Bool) (g : Int)
theorem rd0 {M : Int} (p : List Int) (h60 : p.length ≤ 40) (hB : BdM M p) (hM : 0 ≤ M ∧ M ≤ 100000) (cnt : Int) (hc : 0 < cnt) (h1 : I8 r0) (h2 : I8 s0) :
    lpB Try.prog LL ⟨31, 129, 0, none⟩ n31_24 n31_25 ⟨[(1, pp 0), (2, sl 1 0 p.length p.length), (3, sl 2 0 0 0), (5, iv cnt), (6, iv 0)], [shB r0 s0 r1 s1 r2 s2 n o g, zB p, .cells (rtC []) 2 true true], []⟩ =
    lpB Try.prog LL ⟨31, 129, 0, none⟩ n31_24 n31_25 ⟨[(1, pp 0), (2, sl 1 0 (p.length + 1) (p.length + 1)), (3, sl 2 0 1 1), (5, iv cnt), (6, iv 1)], [shB r0 s0 r1 s1 r2 s2 n o g, zB (mulP p (-(r0.tmod 4)) (1 + s0 % 2)), .cells (rtC (insR [] (r0.tmod 4, 1 + s0 % 2))) 2 true true], []⟩ := by
  have m1 := tmod_bd (a := r0) 4 (by decide)
  obtain ⟨a, ha⟩ : ∃ a, r0.tmod 4 = a := ⟨_, rfl⟩
  obtain ⟨b, hb⟩ : ∃ b, s0 % 2 = b := ⟨_, rfl⟩
  have b1 : 0 ≤ b ∧ b ≤ 1 := by omega
  have i1 := fun t c => @bin_andi1 Try.prog t c s0
  rw [ha] at m1
  rw [hb] at i1
  have hr : okRt (a, 1 + b) := by unfold okRt; simp only []; omega
  rw [ha, hb]
  unfold I8 at h1 h2
  have w1 : IntKind.i64.wrap r0 = r0 := wrap_i64_id (by omega) (by omega)
  have w2 : IntKind.i64.wrap s0 = s0 := wrap_i64_id (by omega) (by omega)
  have x1 : IntKind.i64.wrap a = a := wrap_i64_id (by omega) (by omega)
  have x2 : IntKind.i64.wrap (-a) = -a := wrap_i64_id (by omega) (by omega)
  have a35 := fun x y h => k35 x y h
  have a61 := k61 1 4 p.length (p := p) (h := [shB r0 s0 r1 s1 r2 s2 n o g, zB p, .cells (rtC []) 2 true true, .cells [iv a, iv (1 + b)] 1 true true, .cells [iv (-a), iv (1 + b)] 1 true true]) (-a) (1 + b) rfl rfl (by decide) PoC_zm (by omega) (BdM_ok hB hM (by omega) (by omega))
  have ar := fun (hp : List Blk) (b c l n : Nat) (cs new : List Value) (rd : List Nat) (h1 : 0 < n) (h2 : cs.length = l * 2) (h3 : l + n ≤ 100) (h4 : new.all cellV = true) => app_r (h := hp) (b := b) (c := c) (rd := rd) h1 h2 h3 h4
  clear hB
  simp only [zB, rtC, insR, List.flatMap_cons, List.flatMap_nil, List.cons_append, List.nil_append, List.append_nil] at a61 ⊢
  try simp only [List.flatMap_cons, List.flatMap_nil, List.cons_append, List.nil_append, List.append_nil]
  generalize zm (mulP p (-a) (1 + b)) = L1 at *
  generalize zm p = L2 at *
  generalize p.length = pl at *
  generalize hX : lpB Try.prog LL ⟨31, 129, 0, none⟩ n31_24 n31_25 ⟨[(1, pp 0), (2, sl 1 0 (pl + 1) (pl + 1)), (3, sl 2 0 1 1), (5, iv cnt), (6, iv 1)], _, []⟩ = X
  rw [lpB_eq]
  simp (maxSteps := 1000000) (disch := first | omega | decide | assumption | simp [scal]) [o_indexAddrS es_22, ze_22, o_buildSlice es_22 ze_22 (by decide) ba_22_1, o_fieldAddr fa_54_1 (by decide), loadA_eq ia_5, o_convI cv_5_3, o_fieldAddr fa_54_2 (by decide), loadA_eq ia_4, o_buildSlice es_22 ze_22 (by decide) ba_22_3, o_fieldAddr fa_54_3 (by decide), loadA_eq ia_50, o_fieldAddr fa_54_0 (by decide), o_indexAddrA ea_52, o_indexAddrA ea_51, o_convI cv_50_3, za_24, sz_24, o_fieldAddr fa_24_0 (by decide), loadA_eq ia_3, o_fieldAddr fa_24_1 (by decide), o_buildSlice es_22 ze_22 (by decide) ba_22_2, lenA_sl lk_55, o_indexAddrS es_55, ze_55, o_buildSlice es_55 ze_55 (by decide) ba_55_0, o_sliceS sl_55, ap_55, builtin_append ni_55, loadA_eq ia_24, o_buildSlice es_55 ze_55 (by decide) ba_55_1, lenA_sl lk_22, sz_3, want_some q31_44g4, want_some q31_75g1, want_some q31_75g8, w1, w2, ha, i1, x1, x2, a35, hc, a61, app_z, app_r, append_some ap_55, srcCells]
  rw [lpB_eq]
  simp (maxSteps := 1000000) (disch := first | omega | decide | assumption | simp [scal]) [o_indexAddrS es_22, ze_22, o_buildSlice es_22 ze_22 (by decide) ba_22_1, o_fieldAddr fa_54_1 (by decide), loadA_eq ia_5, o_convI cv_5_3, o_fieldAddr fa_54_2 (by decide), loadA_eq ia_4, o_buildSlice es_22 ze_22 (by decide) ba_22_3, o_fieldAddr fa_54_3 (by decide), loadA_eq ia_50, o_fieldAddr fa_54_0 (by decide), o_indexAddrA ea_52, o_indexAddrA ea_51, o_convI cv_50_3, za_24, sz_24, o_fieldAddr fa_24_0 (by decide), loadA_eq ia_3, o_fieldAddr fa_24_1 (by decide), o_buildSlice es_22 ze_22 (by decide) ba_22_2, lenA_sl lk_55, o_indexAddrS es_55, ze_55, o_buildSlice es_55 ze_55 (by decide) ba_55_0, o_sliceS sl_55, ap_55, builtin_append ni_55, loadA_eq ia_24, o_buildSlice es_55 ze_55 (by decide) ba_55_1, lenA_sl lk_22, sz_3, want_some q31_44g4, want_some q31_75g1, want_some q31_75g8, app_z, app_r, append_some ap_55, srcCells, hX]
end
section
variable (r0 s0 r1 s1 r2 s2 : Int) (n : Nat) (o : Bool) (g : Int)
theorem rd1 {M : Int} (p : List Int) (h60 : p.length ≤ 40) (hB : BdM M p) (hM : 0 ≤ M ∧ M ≤ 100000) (cnt : Int) (hc : 1 < cnt) (h1 : I8 r1) (h2 : I8 s1) (u0 v0 : Int) (hr0 : okRt (u0, v0)) :
    lpB Try.prog LL ⟨31, 129, 0, none⟩ n31_24 n31_25 ⟨[(1, pp 0), (2, sl 1 0 p.length p.length), (3, sl 2 0 1 1), (5, iv cnt), (6, iv 1)], [shB r0 s0 r1 s1 r2 s2 n o g, zB p, .cells (rtC [(u0, v0)]) 2 true true], []⟩ =
    lpB Try.prog LL ⟨31, 129, 0, none⟩ n31_24 n31_25 ⟨[(1, pp 0), (2, sl 1 0 (p.length + 1) (p.length + 1)), (3, sl 2 0 2 2), (5, iv cnt), (6, iv 2)], [shB r0 s0 r1 s1 r2 s2 n o g, zB (mulP p (-(r1.tmod 4)) (1 + s1 % 2)), .cells (rtC (insR [(u0, v0)] (r1.tmod 4, 1 + s1 % 2))) 2 true true], []⟩ := by
  have m1 := tmod_bd (a := r1) 4 (by decide)
  obtain ⟨a, ha⟩ : ∃ a, r1.tmod 4 = a := ⟨_, rfl⟩
  obtain ⟨b, hb⟩ : ∃ b, s1 % 2 = b := ⟨_, rfl⟩
  have b1 : 0 ≤ b ∧ b ≤ 1 := by omega
  have i1 := fun t c => @bin_andi1 Try.prog t c s1
  rw [ha] at m1
  rw [hb] at i1
  have hr : okRt (a, 1 + b) := by unfold okRt; simp only []; omega
  rw [ha, hb]
  unfold I8 at h1 h2
  have w1 : IntKind.i64.wrap r1 = r1 := wrap_i64_id (by omega) (by omega)
  have w2 : IntKind.i64.wrap s1 = s1 := wrap_i64_id (by omega) (by omega)
  have x1 : IntKind.i64.wrap a = a := wrap_i64_id (by omega) (by omega)
  have x2 : IntKind.i64.wrap (-a) = -a := wrap_i64_id (by omega) (by omega)
  have a35 := fun x y h => k35 x y h
  have a61 := k61 1 4 p.length (p := p) (h := [shB r0 s0 r1 s1 r2 s2 n o g, zB p, .cells (rtC [(u0, v0)]) 2 true true, .cells [iv a, iv (1 + b)] 1 true true, .cells [iv (-a), iv (1 + b)] 1 true true]) (-a) (1 + b) rfl rfl (by decide) PoC_zm (by omega) (BdM_ok hB hM (by omega) (by omega))
  have y0 := rt_mul hr0 hr
  have z0 := rt_mul hr hr0
  simp only [] at y0 z0
  have ar := fun (hp : List Blk) (b c l n : Nat) (cs new : List Value) (rd : List Nat) (h1 : 0 < n) (h2 : cs.length = l * 2) (h3 : l + n ≤ 100) (h4 : new.all cellV = true) => app_r (h := hp) (b := b) (c := c) (rd := rd) h1 h2 h3 h4
  clear hB
  simp only [zB, rtC, insR, List.flatMap_cons, List.flatMap_nil, List.cons_append, List.nil_append, List.append_nil] at a61 ⊢
  by_cases q0 : u0 * (1 + b) < a * v0
  · simp only [q0, if_true]
    try simp only [List.flatMap_cons, List.flatMap_nil, List.cons_append, List.nil_append, List.append_nil]
    generalize zm (mulP p (-a) (1 + b)) = L1 at *
    generalize zm p = L2 at *
    generalize p.length = pl at *
    generalize hX : lpB Try.prog LL ⟨31, 129, 0, none⟩ n31_24 n31_25 ⟨[(1, pp 0), (2, sl 1 0 (pl + 1) (pl + 1)), (3, sl 2 0 2 2), (5, iv cnt), (6, iv 2)], _, []⟩ = X
    rw [lpB_eq]
    simp (maxSteps := 1000000) (disch := first | omega | decide | assumption | simp [scal]) [o_indexAddrS es_22, ze_22, o_buildSlice es_22 ze_22 (by decide) ba_22_1, o_fieldAddr fa_54_1 (by decide), loadA_eq ia_5, o_convI cv_5_3, o_fieldAddr fa_54_2 (by decide), loadA_eq ia_4, o_buildSlice es_22 ze_22 (by decide) ba_22_3, o_fieldAddr fa_54_3 (by decide), loadA_eq ia_50, o_fieldAddr fa_54_0 (by decide), o_indexAddrA ea_52, o_indexAddrA ea_51, o_convI cv_50_3, za_24, sz_24, o_fieldAddr fa_24_0 (by decide), loadA_eq ia_3, o_fieldAddr fa_24_1 (by decide), o_buildSlice es_22 ze_22 (by decide) ba_22_2, lenA_sl lk_55, o_indexAddrS es_55, ze_55, o_buildSlice es_55 ze_55 (by decide) ba_55_0, o_sliceS sl_55, ap_55, builtin_append ni_55, loadA_eq ia_24, o_buildSlice es_55 ze_55 (by decide) ba_55_1, lenA_sl lk_22, sz_3, want_some q31_44g4, want_some q31_75g1, want_some q31_75g8, w1, w2, ha, i1, x1, x2, a35, hc, a61, app_z, app_r, append_some ap_55, srcCells, y0, z0, q0]
    rw [lpB_eq]
    simp (maxSteps := 1000000) (disch := first | omega | decide | assumption | simp [scal]) [o_indexAddrS es_22, ze_22, o_buildSlice es_22 ze_22 (by decide) ba_22_1, o_fieldAddr fa_54_1 (by decide), loadA_eq ia_5, o_convI cv_5_3, o_fieldAddr fa_54_2 (by decide), loadA_eq ia_4, o_buildSlice es_22 ze_22 (by decide) ba_22_3, o_fieldAddr fa_54_3 (by decide), loadA_eq ia_50, o_fieldAddr fa_54_0 (by decide), o_indexAddrA ea_52, o_indexAddrA ea_51, o_convI cv_50_3, za_24, sz_24, o_fieldAddr fa_24_0 (by decide), loadA_eq ia_3, o_fieldAddr fa_24_1 (by decide), o_buildSlice es_22 ze_22 (by decide) ba_22_2, lenA_sl lk_55, o_indexAddrS es_55, ze_55, o_buildSlice es_55 ze_55 (by decide) ba_55_0, o_sliceS sl_55, ap_55, builtin_append ni_55, loadA_eq ia_24, o_buildSlice es_55 ze_55 (by decide) ba_55_1, lenA_sl lk_22, sz_3, want_some q31_44g4, want_some q31_75g1, want_some q31_75g8, app_z, app_r, append_some ap_55, srcCells, hX, y0, z0, q0]
    rw [lpB_eq]
    simp (maxSteps := 1000000) (disch := first | omega | decide | assumption | simp [scal]) [o_indexAddrS es_22, ze_22, o_buildSlice es_22 ze_22 (by decide) ba_22_1, o_fieldAddr fa_54_1 (by decide), loadA_eq ia_5, o_convI cv_5_3, o_fieldAddr fa_54_2 (by decide), loadA_eq ia_4, o_buildSlice es_22 ze_22 (by decide) ba_22_3, o_fieldAddr fa_54_3 (by decide), loadA_eq ia_50, o_fieldAddr fa_54_0 (by decide), o_indexAddrA ea_52, o_indexAddrA ea_51, o_convI cv_50_3, za_24, sz_24, o_fieldAddr fa_24_0 (by decide), loadA_eq ia_3, o_fieldAddr fa_24_1 (by decide), o_buildSlice es_22 ze_22 (by decide) ba_22_2, lenA_sl lk_55, o_indexAddrS es_55, ze_55, o_buildSlice es_55 ze_55 (by decide) ba_55_0, o_sliceS sl_55, ap_55, builtin_append ni_55, loadA_eq ia_24, o_buildSlice es_55 ze_55 (by decide) ba_55_1, lenA_sl lk_22, sz_3, want_some q31_44g4, want_some q31_75g1, want_some q31_75g8, app_z, app_r, append_some ap_55, srcCells, hX, y0, z0, q0]
  · simp only [q0, if_false]
    try simp only [List.flatMap_cons, List.flatMap_nil, List.cons_append, List.nil_append, List.append_nil]
    generalize zm (mulP p (-a) (1 + b)) = L1 at *
    generalize zm p = L2 at *
    generalize p.length = pl at *
    generalize hX : lpB Try.prog LL ⟨31, 129, 0, none⟩ n31_24 n31_25 ⟨[(1, pp 0), (2, sl 1 0 (pl + 1) (pl + 1)), (3, sl 2 0 2 2), (5, iv cnt), (6, iv 2)], _, []⟩ = X
    rw [lpB_eq]
    simp (maxSteps := 1000000) (disch := first | omega | decide | assumption | simp [scal]) [o_indexAddrS es_22, ze_22, o_buildSlice es_22 ze_22 (by decide) ba_22_1, o_fieldAddr fa_54_1 (by decide), loadA_eq ia_5, o_convI cv_5_3, o_fieldAddr fa_54_2 (by decide), loadA_eq ia_4, o_buildSlice es_22 ze_22 (by decide) ba_22_3, o_fieldAddr fa_54_3 (by decide), loadA_eq ia_50, o_fieldAddr fa_54_0 (by decide), o_indexAddrA ea_52, o_indexAddrA ea_51, o_convI cv_50_3, za_24, sz_24, o_fieldAddr fa_24_0 (by decide), loadA_eq ia_3, o_fieldAddr fa_24_1 (by decide), o_buildSlice es_22 ze_22 (by decide) ba_22_2, lenA_sl lk_55, o_indexAddrS es_55, ze_55, o_buildSlice es_55 ze_55 (by decide) ba_55_0, o_sliceS sl_55, ap_55, builtin_append ni_55, loadA_eq ia_24, o_buildSlice es_55 ze_55 (by decide) ba_55_1, lenA_sl lk_22, sz_3, want_some q31_44g4, want_some q31_75g1, want_some q31_75g8, w1, w2, ha, i1, x1, x2, a35, hc, a61, app_z, app_r, append_some ap_55, srcCells, y0, z0, q0]
    rw [lpB_eq]
    simp (maxSteps := 1000000) (disch := first | omega | decide | assumption | simp [scal]) [o_indexAddrS es_22, ze_22, o_buildSlice es_22 ze_22 (by decide) ba_22_1, o_fieldAddr fa_54_1 (by decide), loadA_eq ia_5, o_convI cv_5_3, o_fieldAddr fa_54_2 (by decide), loadA_eq ia_4, o_buildSlice es_22 ze_22 (by decide) ba_22_3, o_fieldAddr fa_54_3 (by decide), loadA_eq ia_50, o_fieldAddr fa_54_0 (by decide), o_indexAddrA ea_52, o_indexAddrA ea_51, o_convI cv_50_3, za_24, sz_24, o_fieldAddr fa_24_0 (by decide), loadA_eq ia_3, o_fieldAddr fa_24_1 (by decide), o_buildSlice es_22 ze_22 (by decide) ba_22_2, lenA_sl lk_55, o_indexAddrS es_55, ze_55, o_buildSlice es_55 ze_55 (by decide) ba_55_0, o_sliceS sl_55, ap_55, builtin_append ni_55, loadA_eq ia_24, o_buildSlice es_55 ze_55 (by decide) ba_55_1, lenA_sl lk_22, sz_3, want_some q31_44g4, want_some q31_75g1, want_some q31_75g8, app_z, app_r, append_some ap_55, srcCells, hX, y0, z0, q0]
end
section
variable (r0 s0 r1 s1 r2 s2 : Int) (n : Nat) (o : Bool) (g : Int)
theorem rd2 {M : Int} (p : List Int) (h60 : p.length ≤ 40) (hB : BdM M p) (hM : 0 ≤ M ∧ M ≤ 100000) (cnt : Int) (hc : 2 < cnt) (h1 : I8 r2) (h2 : I8 s2) (u0 v0 u1 v1 : Int) (hr0 : okRt (u0, v0)) (hr1 : okRt (u1, v1)) :
    lpB Try.prog LL ⟨31, 129, 0, none⟩ n31_24 n31_25 ⟨[(1, pp 0), (2, sl 1 0 p.length p.length), (3, sl 2 0 2 2), (5, iv cnt), (6, iv 2)], [shB r0 s0 r1 s1 r2 s2 n o g, zB p, .cells (rtC [(u0, v0), (u1, v1)]) 2 true true], []⟩ =
    lpB Try.prog LL ⟨31, 129, 0, none⟩ n31_24 n31_25 ⟨[(1, pp 0), (2, sl 1 0 (p.length + 1) (p.length + 1)), (3, sl 2 0 3 3), (5, iv cnt), (6, iv 3)], [shB r0 s0 r1 s1 r2 s2 n o g, zB (mulP p (-(r2.tmod 4)) (1 + s2 % 2)), .cells (rtC (insR [(u0, v0), (u1, v1)] (r2.tmod 4, 1 + s2 % 2))) 2 true true], []⟩ := by
  have m1 := tmod_bd (a := r2) 4 (by decide)
  obtain ⟨a, ha⟩ : ∃ a, r2.tmod 4 = a := ⟨_, rfl⟩
  obtain ⟨b, hb⟩ : ∃ b, s2 % 2 = b := ⟨_, rfl⟩
  have b1 : 0 ≤ b ∧ b ≤ 1 := by omega
  have i1 := fun t c => @bin_andi1 Try.prog t c s2
  rw [ha] at m1
  rw [hb] at i1
  have hr : okRt (a, 1 + b) := by unfold okRt; simp only []; omega
  rw [ha, hb]
  unfold I8 at h1 h2
  have w1 : IntKind.i64.wrap r2 = r2 := wrap_i64_id (by omega) (by omega)
  have w2 : IntKind.i64.wrap s2 = s2 := wrap_i64_id (by omega) (by omega)
  have x1 : IntKind.i64.wrap a = a := wrap_i64_id (by omega) (by omega)
  have x2 : IntKind.i64.wrap (-a) = -a := wrap_i64_id (by omega) (by omega)
  have a35 := fun x y h => k35 x y h
  have a61 := k61 1 4 p.length (p := p) (h := [shB r0 s0 r1 s1 r2 s2 n o g, zB p, .cells (rtC [(u0, v0), (u1, v1)]) 2 true true, .cells [iv a, iv (1 + b)] 1 true true, .cells [iv (-a), iv (1 + b)] 1 true true]) (-a) (1 + b) rfl rfl (by decide) PoC_zm (by omega) (BdM_ok hB hM (by omega) (by omega))
  have y0 := rt_mul hr0 hr
  have z0 := rt_mul hr hr0
  simp only [] at y0 z0
  have y1 := rt_mul hr1 hr
  have z1 := rt_mul hr hr1
  simp only [] at y1 z1
  have ar := fun (hp : List Blk) (b c l n : Nat) (cs new : List Value) (rd : List Nat) (h1 : 0 < n) (h2 : cs.length = l * 2) (h3 : l + n ≤ 100) (h4 : new.all cellV = true) => app_r (h := hp) (b := b) (c := c) (rd := rd) h1 h2 h3 h4
  clear hB
  simp only [zB, rtC, insR, List.flatMap_cons, List.flatMap_nil, List.cons_append, List.nil_append, List.append_nil] at a61 ⊢
  by_cases q0 : u0 * (1 + b) < a * v0
  · simp only [q0, if_true]
    by_cases q1 : u1 * (1 + b) < a * v1
    · simp only [q1, if_true]
      try simp only [List.flatMap_cons, List.flatMap_nil, List.cons_append, List.nil_append, List.append_nil]
      generalize zm (mulP p (-a) (1 + b)) = L1 at *
      generalize zm p = L2 at *
      generalize p.length = pl at *
      generalize hX : lpB Try.prog LL ⟨31, 129, 0, none⟩ n31_24 n31_25 ⟨[(1, pp 0), (2, sl 1 0 (pl + 1) (pl + 1)), (3, sl 2 0 3 3), (5, iv cnt), (6, iv 3)], _, []⟩ = X
      rw [lpB_eq]
      simp (maxSteps := 1000000) (disch := first | omega | decide | assumption | simp [scal]) [o_indexAddrS es_22, ze_22, o_buildSlice es_22 ze_22 (by decide) ba_22_1, o_fieldAddr fa_54_1 (by decide), loadA_eq ia_5, o_convI cv_5_3, o_fieldAddr fa_54_2 (by decide), loadA_eq ia_4, o_buildSlice es_22 ze_22 (by decide) ba_22_3, o_fieldAddr fa_54_3 (by decide), loadA_eq ia_50, o_fieldAddr fa_54_0 (by decide), o_indexAddrA ea_52, o_indexAddrA ea_51, o_convI cv_50_3, za_24, sz_24, o_fieldAddr fa_24_0 (by decide), loadA_eq ia_3, o_fieldAddr fa_24_1 (by decide), o_buildSlice es_22 ze_22 (by decide) ba_22_2, lenA_sl lk_55, o_indexAddrS es_55, ze_55, o_buildSlice es_55 ze_55 (by decide) ba_55_0, o_sliceS sl_55, ap_55, builtin_append ni_55, loadA_eq ia_24, o_buildSlice es_55 ze_55 (by decide) ba_55_1, lenA_sl lk_22, sz_3, want_some q31_44g4, want_some q31_75g1, want_some q31_75g8, w1, w2, ha, i1, x1, x2, a35, hc, a61, app_z, app_r, append_some ap_55, srcCells, y0, z0, q0, y1, z1, q1]
      rw [lpB_eq]
      simp (maxSteps := 1000000) (disch := first | omega | decide | assumption | simp [scal]) [o_indexAddrS es_22, ze_22, o_buildSlice es_22 ze_22 (by decide) ba_22_1, o_fieldAddr fa_54_1 (by decide), loadA_eq ia_5, o_convI cv_5_3, o_fieldAddr fa_54_2 (by decide), loadA_eq ia_4, o_buildSlice es_22 ze_22 (by decide) ba_22_3, o_fieldAddr fa_54_3 (by decide), loadA_eq ia_50, o_fieldAddr fa_54_0 (by decide), o_indexAddrA ea_52, o_indexAddrA ea_51, o_convI cv_50_3, za_24, sz_24, o_fieldAddr fa_24_0 (by decide), loadA_eq ia_3, o_fieldAddr fa_24_1 (by decide), o_buildSlice es_22 ze_22 (by decide) ba_22_2, lenA_sl lk_55, o_indexAddrS es_55, ze_55, o_buildSlice es_55 ze_55 (by decide) ba_55_0, o_sliceS sl_55, ap_55, builtin_append ni_55, loadA_eq ia_24, o_buildSlice es_55 ze_55 (by decide) ba_55_1, lenA_sl lk_22, sz_3, want_some q31_44g4, want_some q31_75g1, want_some q31_75g8, app_z, app_r, append_some ap_55, srcCells, hX, y0, z0, q0, y1, z1, q1]
      rw [lpB_eq]
      simp (maxSteps := 1000000) (disch := first | omega | decide | assumption | simp [scal]) [o_indexAddrS es_22, ze_22, o_buildSlice es_22 ze_22 (by decide) ba_22_1, o_fieldAddr fa_54_1 (by decide), loadA_eq ia_5, o_convI cv_5_3, o_fieldAddr fa_54_2 (by decide), loadA_eq ia_4, o_buildSlice es_22 ze_22 (by decide) ba_22_3, o_fieldAddr fa_54_3 (by decide), loadA_eq ia_50, o_fieldAddr fa_54_0 (by decide), o_indexAddrA ea_52, o_indexAddrA ea_51, o_convI cv_50_3, za_24, sz_24, o_fieldAddr fa_24_0 (by decide), loadA_eq ia_3, o_fieldAddr fa_24_1 (by decide), o_buildSlice es_22 ze_22 (by decide) ba_22_2, lenA_sl lk_55, o_indexAddrS es_55, ze_55, o_buildSlice es_55 ze_55 (by decide) ba_55_0, o_sliceS sl_55, ap_55, builtin_append ni_55, loadA_eq ia_24, o_buildSlice es_55 ze_55 (by decide) ba_55_1, lenA_sl lk_22, sz_3, want_some q31_44g4, want_some q31_75g1, want_some q31_75g8, app_z, app_r, append_some ap_55, srcCells, hX, y0, z0, q0, y1, z1, q1]
      rw [lpB_eq]
      simp (maxSteps := 1000000) (disch := first | omega | decide | assumption | simp [scal]) [o_indexAddrS es_22, ze_22, o_buildSlice es_22 ze_22 (by decide) ba_22_1, o_fieldAddr fa_54_1 (by decide), loadA_eq ia_5, o_convI cv_5_3, o_fieldAddr fa_54_2 (by decide), loadA_eq ia_4, o_buildSlice es_22 ze_22 (by decide) ba_22_3, o_fieldAddr fa_54_3 (by decide), loadA_eq ia_50, o_fieldAddr fa_54_0 (by decide), o_indexAddrA ea_52, o_indexAddrA ea_51, o_convI cv_50_3, za_24, sz_24, o_fieldAddr fa_24_0 (by decide), loadA_eq ia_3, o_fieldAddr fa_24_1 (by decide), o_buildSlice es_22 ze_22 (by decide) ba_22_2, lenA_sl lk_55, o_indexAddrS es_55, ze_55, o_buildSlice es_55 ze_55 (by decide) ba_55_0, o_sliceS sl_55, ap_55, builtin_append ni_55, loadA_eq ia_24, o_buildSlice es_55 ze_55 (by decide) ba_55_1, lenA_sl lk_22, sz_3, want_some q31_44g4, want_some q31_75g1, want_some q31_75g8, app_z, app_r, append_some ap_55, srcCells, hX, y0, z0, q0, y1, z1, q1]
    · simp only [q1, if_false]
      try simp only [List.flatMap_cons, List.flatMap_nil, List.cons_append, List.nil_append, List.append_nil]
      generalize zm (mulP p (-a) (1 + b)) = L1 at *
      generalize zm p = L2 at *
      generalize p.length = pl at *
      generalize hX : lpB Try.prog LL ⟨31, 129, 0, none⟩ n31_24 n31_25 ⟨[(1, pp 0), (2, sl 1 0 (pl + 1) (pl + 1)), (3, sl 2 0 3 3), (5, iv cnt), (6, iv 3)], _, []⟩ = X
      rw [lpB_eq]
      simp (maxSteps := 1000000) (disch := first | omega | decide | assumption | simp [scal]) [o_indexAddrS es_22, ze_22, o_buildSlice es_22 ze_22 (by decide) ba_22_1, o_fieldAddr fa_54_1 (by decide), loadA_eq ia_5, o_convI cv_5_3, o_fieldAddr fa_54_2 (by decide), loadA_eq ia_4, o_buildSlice es_22 ze_22 (by decide) ba_22_3, o_fieldAddr fa_54_3 (by decide), loadA_eq ia_50, o_fieldAddr fa_54_0 (by decide), o_indexAddrA ea_52, o_indexAddrA ea_51, o_convI cv_50_3, za_24, sz_24, o_fieldAddr fa_24_0 (by decide), loadA_eq ia_3, o_fieldAddr fa_24_1 (by decide), o_buildSlice es_22 ze_22 (by decide) ba_22_2, lenA_sl lk_55, o_indexAddrS es_55, ze_55, o_buildSlice es_55 ze_55 (by decide) ba_55_0, o_sliceS sl_55, ap_55, builtin_append ni_55, loadA_eq ia_24, o_buildSlice es_55 ze_55 (by decide) ba_55_1, lenA_sl lk_22, sz_3, want_some q31_44g4, want_some q31_75g1, want_some q31_75g8, w1, w2, ha, i1, x1, x2, a35, hc, a61, app_z, app_r, append_some ap_55, srcCells, y0, z0, q0, y1, z1, q1]
      rw [lpB_eq]
      simp (maxSteps := 1000000) (disch := first | omega | decide | assumption | simp [scal]) [o_indexAddrS es_22, ze_22, o_buildSlice es_22 ze_22 (by decide) ba_22_1, o_fieldAddr fa_54_1 (by decide), loadA_eq ia_5, o_convI cv_5_3, o_fieldAddr fa_54_2 (by decide), loadA_eq ia_4, o_buildSlice es_22 ze_22 (by decide) ba_22_3, o_fieldAddr fa_54_3 (by decide), loadA_eq ia_50, o_fieldAddr fa_54_0 (by decide), o_indexAddrA ea_52, o_indexAddrA ea_51, o_convI cv_50_3, za_24, sz_24, o_fieldAddr fa_24_0 (by decide), loadA_eq ia_3, o_fieldAddr fa_24_1 (by decide), o_buildSlice es_22 ze_22 (by decide) ba_22_2, lenA_sl lk_55, o_indexAddrS es_55, ze_55, o_buildSlice es_55 ze_55 (by decide) ba_55_0, o_sliceS sl_55, ap_55, builtin_append ni_55, loadA_eq ia_24, o_buildSlice es_55 ze_55 (by decide) ba_55_1, lenA_sl lk_22, sz_3, want_some q31_44g4, want_some q31_75g1, want_some q31_75g8, app_z, app_r, append_some ap_55, srcCells, hX, y0, z0, q0, y1, z1, q1]
      rw [lpB_eq]
      simp (maxSteps := 1000000) (disch := first | omega | decide | assumption | simp [scal]) [o_indexAddrS es_22, ze_22, o_buildSlice es_22 ze_22 (by decide) ba_22_1, o_fieldAddr fa_54_1 (by decide), loadA_eq ia_5, o_convI cv_5_3, o_fieldAddr fa_54_2 (by decide), loadA_eq ia_4, o_buildSlice es_22 ze_22 (by decide) ba_22_3, o_fieldAddr fa_54_3 (by decide), loadA_eq ia_50, o_fieldAddr fa_54_0 (by decide), o_indexAddrA ea_52, o_indexAddrA ea_51, o_convI cv_50_3, za_24, sz_24, o_fieldAddr fa_24_0 (by decide), loadA_eq ia_3, o_fieldAddr fa_24_1 (by decide), o_buildSlice es_22 ze_22 (by decide) ba_22_2, lenA_sl lk_55, o_indexAddrS es_55, ze_55, o_buildSlice es_55 ze_55 (by decide) ba_55_0, o_sliceS sl_55, ap_55, builtin_append ni_55, loadA_eq ia_24, o_buildSlice es_55 ze_55 (by decide) ba_55_1, lenA_sl lk_22, sz_3, want_some q31_44g4, want_some q31_75g1, want_some q31_75g8, app_z, app_r, append_some ap_55, srcCells, hX, y0, z0, q0, y1, z1, q1]
  · simp only [q0, if_false]
    try simp only [List.flatMap_cons, List.flatMap_nil, List.cons_append, List.nil_append, List.append_nil]
    generalize zm (mulP p (-a) (1 + b)) = L1 at *
    generalize zm p = L2 at *
    generalize p.length = pl at *
    generalize hX : lpB Try.prog LL ⟨31, 129, 0, none⟩ n31_24 n31_25 ⟨[(1, pp 0), (2, sl 1 0 (pl + 1) (pl + 1)), (3, sl 2 0 3 3), (5, iv cnt), (6, iv 3)], _, []⟩ = X
    rw [lpB_eq]
    simp (maxSteps := 1000000) (disch := first | omega | decide | assumption | simp [scal]) [o_indexAddrS es_22, ze_22, o_buildSlice es_22 ze_22 (by decide) ba_22_1, o_fieldAddr fa_54_1 (by decide), loadA_eq ia_5, o_convI cv_5_3, o_fieldAddr fa_54_2 (by decide), loadA_eq ia_4, o_buildSlice es_22 ze_22 (by decide) ba_22_3, o_fieldAddr fa_54_3 (by decide), loadA_eq ia_50, o_fieldAddr fa_54_0 (by decide), o_indexAddrA ea_52, o_indexAddrA ea_51, o_convI cv_50_3, za_24, sz_24, o_fieldAddr fa_24_0 (by decide), loadA_eq ia_3, o_fieldAddr fa_24_1 (by decide), o_buildSlice es_22 ze_22 (by decide) ba_22_2, lenA_sl lk_55, o_indexAddrS es_55, ze_55, o_buildSlice es_55 ze_55 (by decide) ba_55_0, o_sliceS sl_55, ap_55, builtin_append ni_55, loadA_eq ia_24, o_buildSlice es_55 ze_55 (by decide) ba_55_1, lenA_sl lk_22, sz_3, want_some q31_44g4, want_some q31_75g1, want_some q31_75g8, w1, w2, ha, i1, x1, x2, a35, hc, a61, app_z, app_r, append_some ap_55, srcCells, y0, z0, q0]
    rw [lpB_eq]
    simp (maxSteps := 1000000) (disch := first | omega | decide | assumption | simp [scal]) [o_indexAddrS es_22, ze_22, o_buildSlice es_22 ze_22 (by decide) ba_22_1, o_fieldAddr fa_54_1 (by decide), loadA_eq ia_5, o_convI cv_5_3, o_fieldAddr fa_54_2 (by decide), loadA_eq ia_4, o_buildSlice es_22 ze_22 (by decide) ba_22_3, o_fieldAddr fa_54_3 (by decide), loadA_eq ia_50, o_fieldAddr fa_54_0 (by decide), o_indexAddrA ea_52, o_indexAddrA ea_51, o_convI cv_50_3, za_24, sz_24, o_fieldAddr fa_24_0 (by decide), loadA_eq ia_3, o_fieldAddr fa_24_1 (by decide), o_buildSlice es_22 ze_22 (by decide) ba_22_2, lenA_sl lk_55, o_indexAddrS es_55, ze_55, o_buildSlice es_55 ze_55 (by decide) ba_55_0, o_sliceS sl_55, ap_55, builtin_append ni_55, loadA_eq ia_24, o_buildSlice es_55 ze_55 (by decide) ba_55_1, lenA_sl lk_22, sz_3, want_some q31_44g4, want_some q31_75g1, want_some q31_75g8, app_z, app_r, append_some ap_55, srcCells, hX, y0, z0, q0]
end
end Go.Proofs.Ytkmompbfcgjgmaa.nt
namespace Go.Proofs.Ytkmompbfcgjgmaa.nt
open Go.GE
set_option linter.unusedVariables false
set_option linter.unusedSimpArgs false
set_option linter.unusedSectionVars false
set_option maxRecDepth 100000
set_option maxHeartbeats 4000000
attribute [local simp] runOps_nil runOps_cons runOpsF_nil runOpsF_cons fstS_some fstF_some opStep_eq want_none oStep_true oStep_false fin_pure fin_read fin_alloc fin_write storeB wrN cellV addWr o_move o_assign o_pick o_alloc o_box o_load o_store o_nilCheck o_bin o_un o_extract o_callV o_callB o_callI callV_f callV_y callV_fc o_makeFunc partsA Instr.fill builtin_len builtin_max2 bin_add bin_sub bin_mul bin_quo bin_rem bin_lss bin_leq bin_gtr bin_geq bin_eql bin_neq un_neg un_not bin_shr bin_shl wrap_u64_id opd opds optAll putO nbeq nblt constOk isC ops sub cl cr co bodyOf thenS_normal thenS_ret thenS_exit thenS_goto afterN_normal afterN_ret afterN_exit afterN_goto condS_true condS_false blockS_normal blockS_ret blockS_exit blockS_goto headS normS normK_eq fixS_nil fixS_cons fix1 fixV emptyB keepO_nil keepO_cons roundC_normal roundC_exit roundC_ret roundC_goto sweep_eq sweepD rnm pickR pickW rootsB ptrT renT ptrFn renFn ptrB_flat ptrB_non renB_flat renB_non plainS_some drawS_some fpsOk disj unord range' dropTo enumT undef wrap_i64_id Value.cells mkCells ptrTo scal cellsAt rdN endS_ret resultsA Option.bind_some tupV finish reachN dep ptrL_eq ptrL renL_eq renL ptrV_bool ptrV_int ptrV_string ptrV_nilFunc ptrV_nilIface ptrV_nilPtr ptrV_ptr ptrV_nilSl ptrV_sl ptrV_iface ptrV_agg ptrV_tuple ptrV_func renV_bool renV_int renV_string renV_nilFunc renV_nilIface renV_nilPtr renV_ptr renV_nilSl renV_sl renV_iface renV_agg renV_tuple renV_func gotoS_goto gotoS_normal gotoS_exit gotoS_ret skip_seq sliceE bnd bndHi intOf optOpd keepT_nil keepT_cons keepC_t keepC_f lk_nil lk_cons lkC_t lkC_f has_nil has_cons hasC_t hasC_f rep_nil rep_cons repC_t repC_f put_eq putC_t putC_f mem_nil mem_cons memC_t memC_f idx_nil idx_cons idxC_t idxC_f reach_nil reachP_cons reachQ_t reachQ_f ptrB_dead renB_dead ins_eq
attribute [local simp] n31_1s n31_3s n31_5s n31_8s n31_11s n31_14s n31_16s n31_17s n31_15s n31_13s n31_18s n31_12s n31_10s n31_19s n31_9s n31_7s n31_22s n31_27s n31_29s n31_30s n31_28s n31_26s n31_34s n31_36s n31_38s n31_44s n31_46s n31_47s n31_45s n31_43s n31_49s n31_48s n31_42s n31_41s n31_41g n31_40s n31_50s n31_39s n31_37s n31_35s n31_33s n31_32s n31_51s n31_31s n31_25s n31_24s n31_24g n31_23s n31_21s n31_53s n31_56s n31_60s n31_63s n31_64s n31_62s n31_68s n31_71s n31_73s n31_74s n31_72s n31_70s n31_75s n31_69s n31_67s n31_66s n31_76s n31_65s n31_61s n31_59s n31_58s n31_58g n31_57s n31_55s n31_78s n31_79s n31_77s n31_54s n31_52s n31_20s n31_6s n31_4s n31_2s n31_0s Try.f31
def inC (x : Int) : Bool := decide (x ≤ 50) && decide (-50 ≤ x)
def okF (f : Nat → Int) (i : Nat) : Bool := (List.range i).all fun j => inC (f j)
theorem okF_succ {f : Nat → Int} {i : Nat} : okF f (i + 1) = (okF f i && inC (f i)) := by simp [okF, List.range_succ]
section
variable (r0 s0 r1 s1 r2 s2 : Int) (n : Nat) (o : Bool) (g : Int) (k : Nat) (R : List Value) (p : List Int) (h60 : p.length ≤ 40) (hB : BdM 100000 p)
include h60 hB
theorem l58n (hg : g < 0) (hg8 : I8 g) : ∀ (q i : Nat), i + q = p.length →
    lpB Try.prog LL ⟨31, 129, 0, none⟩ n31_58 n31_59 ⟨[(1, pp 0), (2, sl 1 0 p.length p.length), (3, sl 2 0 k k), (4, .bool (okF (fun i => -(p.getD i 0)) i)), (95, iv p.length), (96, iv i)], [shB r0 s0 r1 s1 r2 s2 n o g, .cells (mxL (fun i => -(p.getD i 0)) (fun i => p.getD i 0) p.length i) 1 true true, .cells R 2 true true], []⟩ =
      some (.exit 4, ⟨[(2, sl 0 0 p.length p.length), (3, sl 1 0 k k), (4, .bool (okF (fun i => -(p.getD i 0)) p.length))], [.cells (mxL (fun i => -(p.getD i 0)) (fun i => p.getD i 0) p.length p.length) 1 true true, .cells R 2 true true], []⟩) := by
  intro q
  induction q with
  | zero =>
    intro i hi
    obtain rfl : i = p.length := by omega
    generalize mxL _ _ _ _ = X
    generalize okF _ _ = Y
    rw [lpB_eq]
    simp (maxSteps := 1000000) (disch := first | omega | decide | assumption | simp [scal]) [o_indexAddrS es_22, ze_22, o_buildSlice es_22 ze_22 (by decide) ba_22_1, o_fieldAddr fa_54_1 (by decide), loadA_eq ia_5, o_convI cv_5_3, o_fieldAddr fa_54_2 (by decide), loadA_eq ia_4, o_buildSlice es_22 ze_22 (by decide) ba_22_3, o_fieldAddr fa_54_3 (by decide), loadA_eq ia_50, o_fieldAddr fa_54_0 (by decide), o_indexAddrA ea_52, o_indexAddrA ea_51, o_convI cv_50_3, za_24, sz_24, o_fieldAddr fa_24_0 (by decide), loadA_eq ia_3, o_fieldAddr fa_24_1 (by decide), o_buildSlice es_22 ze_22 (by decide) ba_22_2, lenA_sl lk_55, o_indexAddrS es_55, ze_55, o_buildSlice es_55 ze_55 (by decide) ba_55_0, o_sliceS sl_55, ap_55, builtin_append ni_55, loadA_eq ia_24, o_buildSlice es_55 ze_55 (by decide) ba_55_1, lenA_sl lk_22, sz_3, want_some q31_44g4, want_some q31_75g1, want_some q31_75g8]
  | succ q ih =>
    intro i hi
    have e0 : i < p.length := by omega
    have e1 : (i : Int) < p.length := by omega
    have this := ih (i + 1) (by omega)
    have hset := mxL_set (f := fun i => -(p.getD i 0)) (g := fun i => p.getD i 0) e0
    have hl := mxL_len (f := fun i => -(p.getD i 0)) (g := fun i => p.getD i 0) (n := p.length) (i := i)
    have hl2 := mxL_len (f := fun i => -(p.getD i 0)) (g := fun i => p.getD i 0) (n := p.length) (i := i + 1)
    have g1 := mxL_get (f := fun i => -(p.getD i 0)) (g := fun i => p.getD i 0) (n := p.length) (i := i) e0 (Nat.le_refl _)
    rw [← hset] at this hl2
    rw [okF_succ] at this
    have hb := hB i
    have w := (wrap_i64_id (n := -(p.getD i 0)) (by omega) (by omega))
    simp only [cast1] at this
    clear ih hset hB
    generalize mxL _ _ _ i = X at *
    generalize mxL _ _ _ _ = X2 at *
    generalize okF _ i = Y at *
    generalize okF _ _ = Y2 at *
    generalize p.getD i 0 = x at *
    have g2 : ∀ h, X[i]'h = iv x := fun h => by rw [List.getElem?_eq_getElem h] at g1; exact Option.some.inj g1
    have g3 : (X.set i (iv (-x)))[i]? = some (iv (-x)) := by rw [List.getElem?_set_self (by omega)]
    have g4 : ∀ h, (X.set i (iv (-x)))[i]'h = iv (-x) := fun h => by simp
    have hx : inC (-x) = (decide (-x ≤ 50) && decide (-50 ≤ -x)) := rfl
    cases Y
    · simp only [Bool.false_and] at this
      rw [lpB_eq]
      simp (maxSteps := 1000000) (disch := first | omega | decide | assumption | simp [scal]) [o_indexAddrS es_22, ze_22, o_buildSlice es_22 ze_22 (by decide) ba_22_1, o_fieldAddr fa_54_1 (by decide), loadA_eq ia_5, o_convI cv_5_3, o_fieldAddr fa_54_2 (by decide), loadA_eq ia_4, o_buildSlice es_22 ze_22 (by decide) ba_22_3, o_fieldAddr fa_54_3 (by decide), loadA_eq ia_50, o_fieldAddr fa_54_0 (by decide), o_indexAddrA ea_52, o_indexAddrA ea_51, o_convI cv_50_3, za_24, sz_24, o_fieldAddr fa_24_0 (by decide), loadA_eq ia_3, o_fieldAddr fa_24_1 (by decide), o_buildSlice es_22 ze_22 (by decide) ba_22_2, lenA_sl lk_55, o_indexAddrS es_55, ze_55, o_buildSlice es_55 ze_55 (by decide) ba_55_0, o_sliceS sl_55, ap_55, builtin_append ni_55, loadA_eq ia_24, o_buildSlice es_55 ze_55 (by decide) ba_55_1, lenA_sl lk_22, sz_3, want_some q31_44g4, want_some q31_75g1, want_some q31_75g8, e0, e1, hg, g1, g2, hl, hl2, w, this]
    · by_cases c1 : -x ≤ 50
      · by_cases c2 : -50 ≤ -x
        · rw [decide_eq_true c1, decide_eq_true c2] at hx
          rw [hx] at this
          simp only [Bool.true_and] at this
          have c2' : x ≤ 50 := by omega
          have c1' : -50 ≤ x := by omega
          rw [lpB_eq]
          simp (maxSteps := 1000000) (disch := first | omega | decide | assumption | simp [scal]) [o_indexAddrS es_22, ze_22, o_buildSlice es_22 ze_22 (by decide) ba_22_1, o_fieldAddr fa_54_1 (by decide), loadA_eq ia_5, o_convI cv_5_3, o_fieldAddr fa_54_2 (by decide), loadA_eq ia_4, o_buildSlice es_22 ze_22 (by decide) ba_22_3, o_fieldAddr fa_54_3 (by decide), loadA_eq ia_50, o_fieldAddr fa_54_0 (by decide), o_indexAddrA ea_52, o_indexAddrA ea_51, o_convI cv_50_3, za_24, sz_24, o_fieldAddr fa_24_0 (by decide), loadA_eq ia_3, o_fieldAddr fa_24_1 (by decide), o_buildSlice es_22 ze_22 (by decide) ba_22_2, lenA_sl lk_55, o_indexAddrS es_55, ze_55, o_buildSlice es_55 ze_55 (by decide) ba_55_0, o_sliceS sl_55, ap_55, builtin_append ni_55, loadA_eq ia_24, o_buildSlice es_55 ze_55 (by decide) ba_55_1, lenA_sl lk_22, sz_3, want_some q31_44g4, want_some q31_75g1, want_some q31_75g8, e0, e1, hg, g1, g2, g3, g4, hl, hl2, w, c1, c2, c1', c2', this]
        · rw [decide_eq_true c1, decide_eq_false c2] at hx
          rw [hx] at this
          simp only [Bool.true_and] at this
          have c2' : ¬ x ≤ 50 := by omega
          have c1' : -50 ≤ x := by omega
          rw [lpB_eq]
          simp (maxSteps := 1000000) (disch := first | omega | decide | assumption | simp [scal]) [o_indexAddrS es_22, ze_22, o_buildSlice es_22 ze_22 (by decide) ba_22_1, o_fieldAddr fa_54_1 (by decide), loadA_eq ia_5, o_convI cv_5_3, o_fieldAddr fa_54_2 (by decide), loadA_eq ia_4, o_buildSlice es_22 ze_22 (by decide) ba_22_3, o_fieldAddr fa_54_3 (by decide), loadA_eq ia_50, o_fieldAddr fa_54_0 (by decide), o_indexAddrA ea_52, o_indexAddrA ea_51, o_convI cv_50_3, za_24, sz_24, o_fieldAddr fa_24_0 (by decide), loadA_eq ia_3, o_fieldAddr fa_24_1 (by decide), o_buildSlice es_22 ze_22 (by decide) ba_22_2, lenA_sl lk_55, o_indexAddrS es_55, ze_55, o_buildSlice es_55 ze_55 (by decide) ba_55_0, o_sliceS sl_55, ap_55, builtin_append ni_55, loadA_eq ia_24, o_buildSlice es_55 ze_55 (by decide) ba_55_1, lenA_sl lk_22, sz_3, want_some q31_44g4, want_some q31_75g1, want_some q31_75g8, e0, e1, hg, g1, g2, g3, g4, hl, hl2, w, c1, c2, c1', c2', this]
      · rw [decide_eq_false c1] at hx
        rw [hx] at this
        simp only [Bool.true_and, Bool.false_and] at this
        have c1' : ¬ -50 ≤ x := by omega
        rw [lpB_eq]
        simp (maxSteps := 1000000) (disch := first | omega | decide | assumption | simp [scal]) [o_indexAddrS es_22, ze_22, o_buildSlice es_22 ze_22 (by decide) ba_22_1, o_fieldAddr fa_54_1 (by decide), loadA_eq ia_5, o_convI cv_5_3, o_fieldAddr fa_54_2 (by decide), loadA_eq ia_4, o_buildSlice es_22 ze_22 (by decide) ba_22_3, o_fieldAddr fa_54_3 (by decide), loadA_eq ia_50, o_fieldAddr fa_54_0 (by decide), o_indexAddrA ea_52, o_indexAddrA ea_51, o_convI cv_50_3, za_24, sz_24, o_fieldAddr fa_24_0 (by decide), loadA_eq ia_3, o_fieldAddr fa_24_1 (by decide), o_buildSlice es_22 ze_22 (by decide) ba_22_2, lenA_sl lk_55, o_indexAddrS es_55, ze_55, o_buildSlice es_55 ze_55 (by decide) ba_55_0, o_sliceS sl_55, ap_55, builtin_append ni_55, loadA_eq ia_24, o_buildSlice es_55 ze_55 (by decide) ba_55_1, lenA_sl lk_22, sz_3, want_some q31_44g4, want_some q31_75g1, want_some q31_75g8, e0, e1, hg, g1, g2, g3, g4, hl, hl2, w, c1, c1', this]
theorem l58p (hg : ¬ g < 0) (hg8 : I8 g) : ∀ (q i : Nat), i + q = p.length →
    lpB Try.prog LL ⟨31, 129, 0, none⟩ n31_58 n31_59 ⟨[(1, pp 0), (2, sl 1 0 p.length p.length), (3, sl 2 0 k k), (4, .bool (okF (fun i => p.getD i 0) i)), (95, iv p.length), (96, iv i)], [shB r0 s0 r1 s1 r2 s2 n o g, zB p, .cells R 2 true true], []⟩ =
      some (.exit 4, ⟨[(2, sl 0 0 p.length p.length), (3, sl 1 0 k k), (4, .bool (okF (fun i => p.getD i 0) p.length))], [zB p, .cells R 2 true true], []⟩) := by
  intro q
  induction q with
  | zero =>
    intro i hi
    obtain rfl : i = p.length := by omega
    simp only [zB]
    generalize zm p = X
    generalize okF _ _ = Y
    rw [lpB_eq]
    simp (maxSteps := 1000000) (disch := first | omega | decide | assumption | simp [scal]) [o_indexAddrS es_22, ze_22, o_buildSlice es_22 ze_22 (by decide) ba_22_1, o_fieldAddr fa_54_1 (by decide), loadA_eq ia_5, o_convI cv_5_3, o_fieldAddr fa_54_2 (by decide), loadA_eq ia_4, o_buildSlice es_22 ze_22 (by decide) ba_22_3, o_fieldAddr fa_54_3 (by decide), loadA_eq ia_50, o_fieldAddr fa_54_0 (by decide), o_indexAddrA ea_52, o_indexAddrA ea_51, o_convI cv_50_3, za_24, sz_24, o_fieldAddr fa_24_0 (by decide), loadA_eq ia_3, o_fieldAddr fa_24_1 (by decide), o_buildSlice es_22 ze_22 (by decide) ba_22_2, lenA_sl lk_55, o_indexAddrS es_55, ze_55, o_buildSlice es_55 ze_55 (by decide) ba_55_0, o_sliceS sl_55, ap_55, builtin_append ni_55, loadA_eq ia_24, o_buildSlice es_55 ze_55 (by decide) ba_55_1, lenA_sl lk_22, sz_3, want_some q31_44g4, want_some q31_75g1, want_some q31_75g8]
  | succ q ih =>
    intro i hi
    have e0 : i < p.length := by omega
    have e1 : (i : Int) < p.length := by omega
    have this := ih (i + 1) (by omega)
    have hl := zm_len (L := p)
    have g1 := PoC_zm (p := p) i e0
    rw [okF_succ] at this
    simp only [cast1] at this
    simp only [zB] at this ⊢
    clear ih hB
    generalize zm p = X at *
    generalize okF _ i = Y at *
    generalize okF _ _ = Y2 at *
    generalize p.getD i 0 = x at *
    have g2 : ∀ h, X[i]'h = iv x := fun h => by rw [List.getElem?_eq_getElem h] at g1; exact Option.some.inj g1
    have hx : inC x = (decide (x ≤ 50) && decide (-50 ≤ x)) := rfl
    cases Y
    · simp only [Bool.false_and] at this
      rw [lpB_eq]
      simp (maxSteps := 1000000) (disch := first | omega | decide | assumption | simp [scal]) [o_indexAddrS es_22, ze_22, o_buildSlice es_22 ze_22 (by decide) ba_22_1, o_fieldAddr fa_54_1 (by decide), loadA_eq ia_5, o_convI cv_5_3, o_fieldAddr fa_54_2 (by decide), loadA_eq ia_4, o_buildSlice es_22 ze_22 (by decide) ba_22_3, o_fieldAddr fa_54_3 (by decide), loadA_eq ia_50, o_fieldAddr fa_54_0 (by decide), o_indexAddrA ea_52, o_indexAddrA ea_51, o_convI cv_50_3, za_24, sz_24, o_fieldAddr fa_24_0 (by decide), loadA_eq ia_3, o_fieldAddr fa_24_1 (by decide), o_buildSlice es_22 ze_22 (by decide) ba_22_2, lenA_sl lk_55, o_indexAddrS es_55, ze_55, o_buildSlice es_55 ze_55 (by decide) ba_55_0, o_sliceS sl_55, ap_55, builtin_append ni_55, loadA_eq ia_24, o_buildSlice es_55 ze_55 (by decide) ba_55_1, lenA_sl lk_22, sz_3, want_some q31_44g4, want_some q31_75g1, want_some q31_75g8, e0, e1, hg, g1, g2, hl, this]
    · by_cases c1 : x ≤ 50
      · by_cases c2 : -50 ≤ x
        · rw [decide_eq_true c1, decide_eq_true c2] at hx
          rw [hx] at this
          simp only [Bool.true_and] at this
          rw [lpB_eq]
          simp (maxSteps := 1000000) (disch := first | omega | decide | assumption | simp [scal]) [o_indexAddrS es_22, ze_22, o_buildSlice es_22 ze_22 (by decide) ba_22_1, o_fieldAddr fa_54_1 (by decide), loadA_eq ia_5, o_convI cv_5_3, o_fieldAddr fa_54_2 (by decide), loadA_eq ia_4, o_buildSlice es_22 ze_22 (by decide) ba_22_3, o_fieldAddr fa_54_3 (by decide), loadA_eq ia_50, o_fieldAddr fa_54_0 (by decide), o_indexAddrA ea_52, o_indexAddrA ea_51, o_convI cv_50_3, za_24, sz_24, o_fieldAddr fa_24_0 (by decide), loadA_eq ia_3, o_fieldAddr fa_24_1 (by decide), o_buildSlice es_22 ze_22 (by decide) ba_22_2, lenA_sl lk_55, o_indexAddrS es_55, ze_55, o_buildSlice es_55 ze_55 (by decide) ba_55_0, o_sliceS sl_55, ap_55, builtin_append ni_55, loadA_eq ia_24, o_buildSlice es_55 ze_55 (by decide) ba_55_1, lenA_sl lk_22, sz_3, want_some q31_44g4, want_some q31_75g1, want_some q31_75g8, e0, e1, hg, g1, g2, hl, c1, c2, this]
        · rw [decide_eq_true c1, decide_eq_false c2] at hx
          rw [hx] at this
          simp only [Bool.true_and] at this
          rw [lpB_eq]
          simp (maxSteps := 1000000) (disch := first | omega | decide | assumption | simp [scal]) [o_indexAddrS es_22, ze_22, o_buildSlice es_22 ze_22 (by decide) ba_22_1, o_fieldAddr fa_54_1 (by decide), loadA_eq ia_5, o_convI cv_5_3, o_fieldAddr fa_54_2 (by decide), loadA_eq ia_4, o_buildSlice es_22 ze_22 (by decide) ba_22_3, o_fieldAddr fa_54_3 (by decide), loadA_eq ia_50, o_fieldAddr fa_54_0 (by decide), o_indexAddrA ea_52, o_indexAddrA ea_51, o_convI cv_50_3, za_24, sz_24, o_fieldAddr fa_24_0 (by decide), loadA_eq ia_3, o_fieldAddr fa_24_1 (by decide), o_buildSlice es_22 ze_22 (by decide) ba_22_2, lenA_sl lk_55, o_indexAddrS es_55, ze_55, o_buildSlice es_55 ze_55 (by decide) ba_55_0, o_sliceS sl_55, ap_55, builtin_append ni_55, loadA_eq ia_24, o_buildSlice es_55 ze_55 (by decide) ba_55_1, lenA_sl lk_22, sz_3, want_some q31_44g4, want_some q31_75g1, want_some q31_75g8, e0, e1, hg, g1, g2, hl, c1, c2, this]
      · rw [decide_eq_false c1] at hx
        rw [hx] at this
        simp only [Bool.true_and, Bool.false_and] at this
        rw [lpB_eq]
        simp (maxSteps := 1000000) (disch := first | omega | decide | assumption | simp [scal]) [o_indexAddrS es_22, ze_22, o_buildSlice es_22 ze_22 (by decide) ba_22_1, o_fieldAddr fa_54_1 (by decide), loadA_eq ia_5, o_convI cv_5_3, o_fieldAddr fa_54_2 (by decide), loadA_eq ia_4, o_buildSlice es_22 ze_22 (by decide) ba_22_3, o_fieldAddr fa_54_3 (by decide), loadA_eq ia_50, o_fieldAddr fa_54_0 (by decide), o_indexAddrA ea_52, o_indexAddrA ea_51, o_convI cv_50_3, za_24, sz_24, o_fieldAddr fa_24_0 (by decide), loadA_eq ia_3, o_fieldAddr fa_24_1 (by decide), o_buildSlice es_22 ze_22 (by decide) ba_22_2, lenA_sl lk_55, o_indexAddrS es_55, ze_55, o_buildSlice es_55 ze_55 (by decide) ba_55_0, o_sliceS sl_55, ap_55, builtin_append ni_55, loadA_eq ia_24, o_buildSlice es_55 ze_55 (by decide) ba_55_1, lenA_sl lk_22, sz_3, want_some q31_44g4, want_some q31_75g1, want_some q31_75g8, e0, e1, hg, g1, g2, hl, c1, this]
omit hB in
theorem rde (L : List (Int × Int)) (hL : L.length ≤ 10) : lpB Try.prog LL ⟨31, 129, 0, none⟩ n31_24 n31_25 ⟨[(1, pp 0), (2, sl 1 0 p.length p.length), (3, sl 2 0 L.length L.length), (5, iv k), (6, iv k)], [shB r0 s0 r1 s1 r2 s2 n o g, zB p, .cells (rtC L) 2 true true], []⟩ =
    some (.exit 0, ⟨[(1, pp 0), (2, sl 1 0 p.length p.length), (3, sl 2 0 L.length L.length)], [shB r0 s0 r1 s1 r2 s2 n o g, zB p, .cells (rtC L) 2 true true], []⟩) := by
  simp only [zB]
  generalize zm p = X
  generalize rtC L = Y
  rw [lpB_eq]
  simp (maxSteps := 1000000) (disch := first | omega | decide | assumption | simp [scal]) [o_indexAddrS es_22, ze_22, o_buildSlice es_22 ze_22 (by decide) ba_22_1, o_fieldAddr fa_54_1 (by decide), loadA_eq ia_5, o_convI cv_5_3, o_fieldAddr fa_54_2 (by decide), loadA_eq ia_4, o_buildSlice es_22 ze_22 (by decide) ba_22_3, o_fieldAddr fa_54_3 (by decide), loadA_eq ia_50, o_fieldAddr fa_54_0 (by decide), o_indexAddrA ea_52, o_indexAddrA ea_51, o_convI cv_50_3, za_24, sz_24, o_fieldAddr fa_24_0 (by decide), loadA_eq ia_3, o_fieldAddr fa_24_1 (by decide), o_buildSlice es_22 ze_22 (by decide) ba_22_2, lenA_sl lk_55, o_indexAddrS es_55, ze_55, o_buildSlice es_55 ze_55 (by decide) ba_55_0, o_sliceS sl_55, ap_55, builtin_append ni_55, loadA_eq ia_24, o_buildSlice es_55 ze_55 (by decide) ba_55_1, lenA_sl lk_22, sz_3, want_some q31_44g4, want_some q31_75g1, want_some q31_75g8]
end
end Go.Proofs.Ytkmompbfcgjgmaa.nt
namespace Go.Proofs.Ytkmompbfcgjgmaa.nt
open Go.GE
set_option linter.unusedVariables false
set_option linter.unusedSimpArgs false
set_option linter.unusedSectionVars false
set_option maxRecDepth 100000
set_option maxHeartbeats 4000000
def shR (r s : Int) : Int × Int := (r.tmod 4, 1 + s % 2)
def fldP : List (Int × Int) → List Int → List Int
  | [], p => p
  | r :: l, p => fldP l (mulP p (-r.1) r.2)
def fldR : List (Int × Int) → List (Int × Int) → List (Int × Int)
  | [], R => R
  | r :: l, R => fldR l (insR R r)
def shC (n : Nat) (o : Bool) : Nat := bif o then n % 2 else 1 + n % 3
def shB0 (o : Bool) (g : Int) : List Int := bif o then (bif decide (g.tmod 2 = 0) then [2, 0, 1] else [1, 1, 1]) else [1]
def negP (g : Int) (p : List Int) : List Int := bif decide (g < 0) then p.map (fun x => -x) else p
def okP (p : List Int) : Bool := p.all inC
theorem shR_ok (r s : Int) : okRt (shR r s) := by
  have := tmod_bd (a := r) 4 (by decide)
  unfold okRt shR
  simp only []
  omega
theorem okF_neg {p : List Int} : okF (fun i => -(p.getD i 0)) p.length = okP (p.map (fun x => -x)) := by
  unfold okF okP
  rw [List.all_map]
  have : p = (List.range p.length).map (fun i => p.getD i 0) := of_range.symm
  rw [Bool.eq_iff_iff, List.all_eq_true, List.all_eq_true]
  constructor
  · intro h x hx
    obtain ⟨i, hi, rfl⟩ := List.getElem_of_mem hx
    have := h i (List.mem_range.2 hi)
    simpa [hi] using this
  · intro h i hi
    have hi := List.mem_range.1 hi
    have := h p[i] (List.getElem_mem hi)
    simpa [hi] using this
theorem okF_pos {p : List Int} : okF (fun i => p.getD i 0) p.length = okP p := by
  unfold okF okP
  rw [Bool.eq_iff_iff, List.all_eq_true, List.all_eq_true]
  constructor
  · intro h x hx
    obtain ⟨i, hi, rfl⟩ := List.getElem_of_mem hx
    have := h i (List.mem_range.2 hi)
    simpa [hi] using this
  · intro h i hi
    have hi := List.mem_range.1 hi
    have := h p[i] (List.getElem_mem hi)
    simpa [hi] using this
theorem mx_neg {p : List Int} : mxL (fun i => -(p.getD i 0)) (fun i => p.getD i 0) p.length p.length = zm (p.map (fun x => -x)) := by
  rw [mxL_full]
  congr 1
  have e : p.map (fun x => -x) = ((List.range p.length).map (fun i => p.getD i 0)).map (fun x => -x) := by rw [of_range]
  rw [e, List.map_map]
  rfl
theorem mx_zm {p : List Int} {f : Nat → Int} : mxL f (fun i => p.getD i 0) p.length 0 = zm p := by rw [mxL_zero, of_range]
section
variable (r0 s0 r1 s1 r2 s2 : Int) (n : Nat) (o : Bool) (g : Int) (hg8 : I8 g)
include hg8
/-- the signs, and whether all coefficients are small -/
theorem l58 (p : List Int) (h60 : p.length ≤ 40) (hB : BdM 100000 p) (k : Nat) (R : List Value) :
    lpB Try.prog LL ⟨31, 129, 0, none⟩ n31_58 n31_59 ⟨[(1, pp 0), (2, sl 1 0 p.length p.length), (3, sl 2 0 k k), (4, .bool true), (95, iv p.length), (96, iv 0)], [shB r0 s0 r1 s1 r2 s2 n o g, zB p, .cells R 2 true true], []⟩ =
      some (.exit 4, ⟨[(2, sl 0 0 p.length p.length), (3, sl 1 0 k k), (4, .bool (okP (negP g p)))], [zB (negP g p), .cells R 2 true true], []⟩) := by
  unfold negP
  by_cases hg : g < 0
  · have := l58n r0 s0 r1 s1 r2 s2 n o g k R p h60 hB hg hg8 p.length 0 (by omega)
    rw [okF_neg, mx_neg, mx_zm] at this
    rw [decide_eq_true hg, cond_true]
    exact this
  · have := l58p r0 s0 r1 s1 r2 s2 n o g k R p h60 hB hg hg8 p.length 0 (by omega)
    rw [okF_pos] at this
    rw [decide_eq_false hg, cond_false]
    exact this
end
theorem negP_len {g : Int} {p : List Int} : (negP g p).length = p.length := by
  unfold negP
  cases decide (g < 0) <;> simp
theorem BdM_up {M N : Int} {p : List Int} (h : BdM M p) (hMN : M ≤ N) : BdM N p := fun i => by have := h i; omega
theorem B_one : BdM 2 [1] := by
  intro i
  rcases i with _ | i <;> simp
theorem B_111 : BdM 2 [1, 1, 1] := by
  intro i
  rcases i with _ | _ | _ | i <;> simp
theorem B_201 : BdM 2 [2, 0, 1] := by
  intro i
  rcases i with _ | _ | _ | i <;> simp
section
variable (r0 s0 r1 s1 r2 s2 : Int) (n : Nat) (o : Bool) (g : Int) (h8 : I8 r0 ∧ I8 s0 ∧ I8 r1 ∧ I8 s1 ∧ I8 r2 ∧ I8 s2 ∧ I8 g) (hn : n < 256)
include h8 hn
def shL (r0 s0 r1 s1 r2 s2 : Int) (n : Nat) (o : Bool) : List (Int × Int) := [shR r0 s0, shR r1 s1, shR r2 s2].take (shC n o)
def shP (r0 s0 r1 s1 r2 s2 : Int) (n : Nat) (o : Bool) (g : Int) : List Int := negP g (fldP (shL r0 s0 r1 s1 r2 s2 n o) (shB0 o g))
def shQ (r0 s0 r1 s1 r2 s2 : Int) (n : Nat) (o : Bool) : List (Int × Int) := fldR (shL r0 s0 r1 s1 r2 s2 n o) []
omit h8 hn in
theorem ins_len {R : List (Int × Int)} {r : Int × Int} : (insR R r).length = R.length + 1 := by
  induction R with
  | nil => rfl
  | cons a R ih =>
    unfold insR
    split
    · simp [ih]
    · simp
abbrev rtB (l : List (Int × Int)) : Blk := .cells (rtC l) 2 true true
/-- the rounds -/
theorem bA1 : ∃ (P : List Int) (R : List (Int × Int)), P = (mulP [1] (-(r0.tmod 4)) (1 + s0 % 2)) ∧ R = [(r0.tmod 4, 1 + s0 % 2)] ∧ P.length = 2 ∧ R.length = 1 ∧ BdM 250 P ∧
    lpB Try.prog LL ⟨31, 129, 0, none⟩ n31_24 n31_25 ⟨[(1, pp 0), (2, sl 1 0 1 1), (3, sl 2 0 0 0), (5, iv 1), (6, iv 0)], [shB r0 s0 r1 s1 r2 s2 n o g, zB [1], .cells [] 2 true true], []⟩ =
      some (.exit 0, ⟨[(1, pp 0), (2, sl 1 0 2 2), (3, sl 2 0 1 1)], [shB r0 s0 r1 s1 r2 s2 n o g, zB P, rtB R], []⟩) := by
  obtain ⟨i0, i1, i2, i3, i4, i5, i6⟩ := h8
  have b0 : BdM 2 [1] := B_one
  have sr0 := shR_ok r0 s0
  have b1 : BdM 10 (mulP [1] (-(r0.tmod 4)) (1 + s0 % 2)) := BdM_mul b0 (by omega) (by unfold okRt shR at sr0; simp only [] at sr0; omega) (by unfold okRt shR at sr0; simp only [] at sr0; omega)
  refine ⟨_, _, rfl, rfl, by simp [mulP_len], ?_, BdM_up b1 (by omega), ?_⟩
  · rfl
  · have e0 := rd0 r0 s0 r1 s1 r2 s2 n o g [1] (by simp) b0 (by omega) 1 (by omega) i0 i1
    have e := rde r0 s0 r1 s1 r2 s2 n o g 1 (mulP [1] (-(r0.tmod 4)) (1 + s0 % 2)) (by simp [mulP_len]) [(r0.tmod 4, 1 + s0 % 2)] (by simp)
    rw [show ((mulP [1] (-(r0.tmod 4)) (1 + s0 % 2))).length = 2 by simp [mulP_len]] at e
    exact e0.trans e
/-- the rounds -/
theorem bA2 : ∃ (P : List Int) (R : List (Int × Int)), P = (mulP (mulP [1] (-(r0.tmod 4)) (1 + s0 % 2)) (-(r1.tmod 4)) (1 + s1 % 2)) ∧ R = (insR [(r0.tmod 4, 1 + s0 % 2)] (r1.tmod 4, 1 + s1 % 2)) ∧ P.length = 3 ∧ R.length = 2 ∧ BdM 250 P ∧
    lpB Try.prog LL ⟨31, 129, 0, none⟩ n31_24 n31_25 ⟨[(1, pp 0), (2, sl 1 0 1 1), (3, sl 2 0 0 0), (5, iv 2), (6, iv 0)], [shB r0 s0 r1 s1 r2 s2 n o g, zB [1], .cells [] 2 true true], []⟩ =
      some (.exit 0, ⟨[(1, pp 0), (2, sl 1 0 3 3), (3, sl 2 0 2 2)], [shB r0 s0 r1 s1 r2 s2 n o g, zB P, rtB R], []⟩) := by
  obtain ⟨i0, i1, i2, i3, i4, i5, i6⟩ := h8
  have b0 : BdM 2 [1] := B_one
  have sr0 := shR_ok r0 s0
  have b1 : BdM 10 (mulP [1] (-(r0.tmod 4)) (1 + s0 % 2)) := BdM_mul b0 (by omega) (by unfold okRt shR at sr0; simp only [] at sr0; omega) (by unfold okRt shR at sr0; simp only [] at sr0; omega)
  have sr1 := shR_ok r1 s1
  have b2 : BdM 50 (mulP (mulP [1] (-(r0.tmod 4)) (1 + s0 % 2)) (-(r1.tmod 4)) (1 + s1 % 2)) := BdM_mul b1 (by omega) (by unfold okRt shR at sr1; simp only [] at sr1; omega) (by unfold okRt shR at sr1; simp only [] at sr1; omega)
  refine ⟨_, _, rfl, rfl, by simp [mulP_len], ?_, BdM_up b2 (by omega), ?_⟩
  · simp only [ins_len]; rfl
  · have e0 := rd0 r0 s0 r1 s1 r2 s2 n o g [1] (by simp) b0 (by omega) 2 (by omega) i0 i1
    have e1 := rd1 r0 s0 r1 s1 r2 s2 n o g (mulP [1] (-(r0.tmod 4)) (1 + s0 % 2)) (by simp [mulP_len]) b1 (by omega) 2 (by omega) i2 i3 (r0.tmod 4) (1 + s0 % 2) sr0
    rw [show ((mulP [1] (-(r0.tmod 4)) (1 + s0 % 2))).length = 2 by simp [mulP_len]] at e1
    have e := rde r0 s0 r1 s1 r2 s2 n o g 2 (mulP (mulP [1] (-(r0.tmod 4)) (1 + s0 % 2)) (-(r1.tmod 4)) (1 + s1 % 2)) (by simp [mulP_len]) (insR [(r0.tmod 4, 1 + s0 % 2)] (r1.tmod 4, 1 + s1 % 2)) (by simp [ins_len])
    rw [show ((mulP (mulP [1] (-(r0.tmod 4)) (1 + s0 % 2)) (-(r1.tmod 4)) (1 + s1 % 2))).length = 3 by simp [mulP_len], show ((insR [(r0.tmod 4, 1 + s0 % 2)] (r1.tmod 4, 1 + s1 % 2))).length = 2 by simp [ins_len]] at e
    exact e0.trans (e1.trans e)
/-- the rounds -/
theorem bA3 : ∃ (P : List Int) (R : List (Int × Int)), P = (mulP (mulP (mulP [1] (-(r0.tmod 4)) (1 + s0 % 2)) (-(r1.tmod 4)) (1 + s1 % 2)) (-(r2.tmod 4)) (1 + s2 % 2)) ∧ R = (insR (insR [(r0.tmod 4, 1 + s0 % 2)] (r1.tmod 4, 1 + s1 % 2)) (r2.tmod 4, 1 + s2 % 2)) ∧ P.length = 4 ∧ R.length = 3 ∧ BdM 250 P ∧
    lpB Try.prog LL ⟨31, 129, 0, none⟩ n31_24 n31_25 ⟨[(1, pp 0), (2, sl 1 0 1 1), (3, sl 2 0 0 0), (5, iv 3), (6, iv 0)], [shB r0 s0 r1 s1 r2 s2 n o g, zB [1], .cells [] 2 true true], []⟩ =
      some (.exit 0, ⟨[(1, pp 0), (2, sl 1 0 4 4), (3, sl 2 0 3 3)], [shB r0 s0 r1 s1 r2 s2 n o g, zB P, rtB R], []⟩) := by
  obtain ⟨i0, i1, i2, i3, i4, i5, i6⟩ := h8
  have b0 : BdM 2 [1] := B_one
  have sr0 := shR_ok r0 s0
  have b1 : BdM 10 (mulP [1] (-(r0.tmod 4)) (1 + s0 % 2)) := BdM_mul b0 (by omega) (by unfold okRt shR at sr0; simp only [] at sr0; omega) (by unfold okRt shR at sr0; simp only [] at sr0; omega)
  have sr1 := shR_ok r1 s1
  have b2 : BdM 50 (mulP (mulP [1] (-(r0.tmod 4)) (1 + s0 % 2)) (-(r1.tmod 4)) (1 + s1 % 2)) := BdM_mul b1 (by omega) (by unfold okRt shR at sr1; simp only [] at sr1; omega) (by unfold okRt shR at sr1; simp only [] at sr1; omega)
  have sr2 := shR_ok r2 s2
  have b3 : BdM 250 (mulP (mulP (mulP [1] (-(r0.tmod 4)) (1 + s0 % 2)) (-(r1.tmod 4)) (1 + s1 % 2)) (-(r2.tmod 4)) (1 + s2 % 2)) := BdM_mul b2 (by omega) (by unfold okRt shR at sr2; simp only [] at sr2; omega) (by unfold okRt shR at sr2; simp only [] at sr2; omega)
  refine ⟨_, _, rfl, rfl, by simp [mulP_len], ?_, BdM_up b3 (by omega), ?_⟩
  · simp only [ins_len]; rfl
  · have e0 := rd0 r0 s0 r1 s1 r2 s2 n o g [1] (by simp) b0 (by omega) 3 (by omega) i0 i1
    have e1 := rd1 r0 s0 r1 s1 r2 s2 n o g (mulP [1] (-(r0.tmod 4)) (1 + s0 % 2)) (by simp [mulP_len]) b1 (by omega) 3 (by omega) i2 i3 (r0.tmod 4) (1 + s0 % 2) sr0
    rw [show ((mulP [1] (-(r0.tmod 4)) (1 + s0 % 2))).length = 2 by simp [mulP_len]] at e1
    have e := rde r0 s0 r1 s1 r2 s2 n o g 3 (mulP (mulP (mulP [1] (-(r0.tmod 4)) (1 + s0 % 2)) (-(r1.tmod 4)) (1 + s1 % 2)) (-(r2.tmod 4)) (1 + s2 % 2)) (by simp [mulP_len]) (insR (insR [(r0.tmod 4, 1 + s0 % 2)] (r1.tmod 4, 1 + s1 % 2)) (r2.tmod 4, 1 + s2 % 2)) (by simp [ins_len])
    rw [show ((mulP (mulP (mulP [1] (-(r0.tmod 4)) (1 + s0 % 2)) (-(r1.tmod 4)) (1 + s1 % 2)) (-(r2.tmod 4)) (1 + s2 % 2))).length = 4 by simp [mulP_len], show ((insR (insR [(r0.tmod 4, 1 + s0 % 2)] (r1.tmod 4, 1 + s1 % 2)) (r2.tmod 4, 1 + s2 % 2))).length = 3 by simp [ins_len]] at e
    refine e0.trans (e1.trans (Eq.trans ?_ e))
    have hi : (insR [(r0.tmod 4, 1 + s0 % 2)] (r1.tmod 4, 1 + s1 % 2)) = [(r0.tmod 4, 1 + s0 % 2), (r1.tmod 4, 1 + s1 % 2)] ∨ (insR [(r0.tmod 4, 1 + s0 % 2)] (r1.tmod 4, 1 + s1 % 2)) = [(r1.tmod 4, 1 + s1 % 2), (r0.tmod 4, 1 + s0 % 2)] := by
      simp only [insR]
      split
      · exact .inl rfl
      · exact .inr rfl
    rcases hi with hi | hi
    · have e2 := rd2 r0 s0 r1 s1 r2 s2 n o g (mulP (mulP [1] (-(r0.tmod 4)) (1 + s0 % 2)) (-(r1.tmod 4)) (1 + s1 % 2)) (by simp [mulP_len]) b2 (by omega) 3 (by omega) i4 i5 (r0.tmod 4) (1 + s0 % 2) (r1.tmod 4) (1 + s1 % 2) sr0 sr1
      rw [show ((mulP (mulP [1] (-(r0.tmod 4)) (1 + s0 % 2)) (-(r1.tmod 4)) (1 + s1 % 2))).length = 3 by simp [mulP_len]] at e2
      rw [hi]
      exact e2
    · have e2 := rd2 r0 s0 r1 s1 r2 s2 n o g (mulP (mulP [1] (-(r0.tmod 4)) (1 + s0 % 2)) (-(r1.tmod 4)) (1 + s1 % 2)) (by simp [mulP_len]) b2 (by omega) 3 (by omega) i4 i5 (r1.tmod 4) (1 + s1 % 2) (r0.tmod 4) (1 + s0 % 2) sr1 sr0
      rw [show ((mulP (mulP [1] (-(r0.tmod 4)) (1 + s0 % 2)) (-(r1.tmod 4)) (1 + s1 % 2))).length = 3 by simp [mulP_len]] at e2
      rw [hi]
      exact e2
/-- the rounds -/
theorem bB0 : ∃ (P : List Int) (R : List (Int × Int)), P = [2, 0, 1] ∧ R = [] ∧ P.length = 3 ∧ R.length = 0 ∧ BdM 250 P ∧
    lpB Try.prog LL ⟨31, 129, 0, none⟩ n31_24 n31_25 ⟨[(1, pp 0), (2, sl 1 0 3 3), (3, sl 2 0 0 0), (5, iv 0), (6, iv 0)], [shB r0 s0 r1 s1 r2 s2 n o g, zB [2, 0, 1], .cells [] 2 true true], []⟩ =
      some (.exit 0, ⟨[(1, pp 0), (2, sl 1 0 3 3), (3, sl 2 0 0 0)], [shB r0 s0 r1 s1 r2 s2 n o g, zB P, rtB R], []⟩) := by
  obtain ⟨i0, i1, i2, i3, i4, i5, i6⟩ := h8
  have b0 : BdM 2 [2, 0, 1] := B_201
  refine ⟨_, _, rfl, rfl, by simp [mulP_len], ?_, BdM_up b0 (by omega), ?_⟩
  · rfl
  · have e := rde r0 s0 r1 s1 r2 s2 n o g 0 [2, 0, 1] (by simp) [] (by simp)
    exact e
/-- the rounds -/
theorem bB1 : ∃ (P : List Int) (R : List (Int × Int)), P = (mulP [2, 0, 1] (-(r0.tmod 4)) (1 + s0 % 2)) ∧ R = [(r0.tmod 4, 1 + s0 % 2)] ∧ P.length = 4 ∧ R.length = 1 ∧ BdM 250 P ∧
    lpB Try.prog LL ⟨31, 129, 0, none⟩ n31_24 n31_25 ⟨[(1, pp 0), (2, sl 1 0 3 3), (3, sl 2 0 0 0), (5, iv 1), (6, iv 0)], [shB r0 s0 r1 s1 r2 s2 n o g, zB [2, 0, 1], .cells [] 2 true true], []⟩ =
      some (.exit 0, ⟨[(1, pp 0), (2, sl 1 0 4 4), (3, sl 2 0 1 1)], [shB r0 s0 r1 s1 r2 s2 n o g, zB P, rtB R], []⟩) := by
  obtain ⟨i0, i1, i2, i3, i4, i5, i6⟩ := h8
  have b0 : BdM 2 [2, 0, 1] := B_201
  have sr0 := shR_ok r0 s0
  have b1 : BdM 10 (mulP [2, 0, 1] (-(r0.tmod 4)) (1 + s0 % 2)) := BdM_mul b0 (by omega) (by unfold okRt shR at sr0; simp only [] at sr0; omega) (by unfold okRt shR at sr0; simp only [] at sr0; omega)
  refine ⟨_, _, rfl, rfl, by simp [mulP_len], ?_, BdM_up b1 (by omega), ?_⟩
  · rfl
  · have e0 := rd0 r0 s0 r1 s1 r2 s2 n o g [2, 0, 1] (by simp) b0 (by omega) 1 (by omega) i0 i1
    have e := rde r0 s0 r1 s1 r2 s2 n o g 1 (mulP [2, 0, 1] (-(r0.tmod 4)) (1 + s0 % 2)) (by simp [mulP_len]) [(r0.tmod 4, 1 + s0 % 2)] (by simp)
    rw [show ((mulP [2, 0, 1] (-(r0.tmod 4)) (1 + s0 % 2))).length = 4 by simp [mulP_len]] at e
    exact e0.trans e
/-- the rounds -/
theorem bC0 : ∃ (P : List Int) (R : List (Int × Int)), P = [1, 1, 1] ∧ R = [] ∧ P.length = 3 ∧ R.length = 0 ∧ BdM 250 P ∧
    lpB Try.prog LL ⟨31, 129, 0, none⟩ n31_24 n31_25 ⟨[(1, pp 0), (2, sl 1 0 3 3), (3, sl 2 0 0 0), (5, iv 0), (6, iv 0)], [shB r0 s0 r1 s1 r2 s2 n o g, zB [1, 1, 1], .cells [] 2 true true], []⟩ =
      some (.exit 0, ⟨[(1, pp 0), (2, sl 1 0 3 3), (3, sl 2 0 0 0)], [shB r0 s0 r1 s1 r2 s2 n o g, zB P, rtB R], []⟩) := by
  obtain ⟨i0, i1, i2, i3, i4, i5, i6⟩ := h8
  have b0 : BdM 2 [1, 1, 1] := B_111
  refine ⟨_, _, rfl, rfl, by simp [mulP_len], ?_, BdM_up b0 (by omega), ?_⟩
  · rfl
  · have e := rde r0 s0 r1 s1 r2 s2 n o g 0 [1, 1, 1] (by simp) [] (by simp)
    exact e
/-- the rounds -/
theorem bC1 : ∃ (P : List Int) (R : List (Int × Int)), P = (mulP [1, 1, 1] (-(r0.tmod 4)) (1 + s0 % 2)) ∧ R = [(r0.tmod 4, 1 + s0 % 2)] ∧ P.length = 4 ∧ R.length = 1 ∧ BdM 250 P ∧
    lpB Try.prog LL ⟨31, 129, 0, none⟩ n31_24 n31_25 ⟨[(1, pp 0), (2, sl 1 0 3 3), (3, sl 2 0 0 0), (5, iv 1), (6, iv 0)], [shB r0 s0 r1 s1 r2 s2 n o g, zB [1, 1, 1], .cells [] 2 true true], []⟩ =
      some (.exit 0, ⟨[(1, pp 0), (2, sl 1 0 4 4), (3, sl 2 0 1 1)], [shB r0 s0 r1 s1 r2 s2 n o g, zB P, rtB R], []⟩) := by
  obtain ⟨i0, i1, i2, i3, i4, i5, i6⟩ := h8
  have b0 : BdM 2 [1, 1, 1] := B_111
  have sr0 := shR_ok r0 s0
  have b1 : BdM 10 (mulP [1, 1, 1] (-(r0.tmod 4)) (1 + s0 % 2)) := BdM_mul b0 (by omega) (by unfold okRt shR at sr0; simp only [] at sr0; omega) (by unfold okRt shR at sr0; simp only [] at sr0; omega)
  refine ⟨_, _, rfl, rfl, by simp [mulP_len], ?_, BdM_up b1 (by omega), ?_⟩
  · rfl
  · have e0 := rd0 r0 s0 r1 s1 r2 s2 n o g [1, 1, 1] (by simp) b0 (by omega) 1 (by omega) i0 i1
    have e := rde r0 s0 r1 s1 r2 s2 n o g 1 (mulP [1, 1, 1] (-(r0.tmod 4)) (1 + s0 % 2)) (by simp [mulP_len]) [(r0.tmod 4, 1 + s0 % 2)] (by simp)
    rw [show ((mulP [1, 1, 1] (-(r0.tmod 4)) (1 + s0 % 2))).length = 4 by simp [mulP_len]] at e
    exact e0.trans e
end
end Go.Proofs.Ytkmompbfcgjgmaa.nt
namespace Go.Proofs.Ytkmompbfcgjgmaa.nt
open Go.GE
set_option linter.unusedVariables false
set_option linter.unusedSimpArgs false
set_option linter.unusedSectionVars false
set_option maxRecDepth 100000
set_option maxHeartbeats 4000000
attribute [local simp] runOps_nil runOps_cons runOpsF_nil runOpsF_cons fstS_some fstF_some opStep_eq want_none oStep_true oStep_false fin_pure fin_read fin_alloc fin_write storeB wrN cellV addWr o_move o_assign o_pick o_alloc o_box o_load o_store o_nilCheck o_bin o_un o_extract o_callV o_callB o_callI callV_f callV_y callV_fc o_makeFunc partsA Instr.fill builtin_len builtin_max2 bin_add bin_sub bin_mul bin_quo bin_rem bin_lss bin_leq bin_gtr bin_geq bin_eql bin_neq un_neg un_not bin_shr bin_shl wrap_u64_id opd opds optAll putO nbeq nblt constOk isC ops sub cl cr co bodyOf thenS_normal thenS_ret thenS_exit thenS_goto afterN_normal afterN_ret afterN_exit afterN_goto condS_true condS_false blockS_normal blockS_ret blockS_exit blockS_goto headS normS normK_eq fixS_nil fixS_cons fix1 fixV emptyB keepO_nil keepO_cons roundC_normal roundC_exit roundC_ret roundC_goto sweep_eq sweepD rnm pickR pickW rootsB ptrT renT ptrFn renFn ptrB_flat ptrB_non renB_flat renB_non plainS_some drawS_some fpsOk disj unord range' dropTo enumT undef wrap_i64_id Value.cells mkCells ptrTo scal cellsAt rdN endS_ret resultsA Option.bind_some tupV finish reachN dep ptrL_eq ptrL renL_eq renL ptrV_bool ptrV_int ptrV_string ptrV_nilFunc ptrV_nilIface ptrV_nilPtr ptrV_ptr ptrV_nilSl ptrV_sl ptrV_iface ptrV_agg ptrV_tuple ptrV_func renV_bool renV_int renV_string renV_nilFunc renV_nilIface renV_nilPtr renV_ptr renV_nilSl renV_sl renV_iface renV_agg renV_tuple renV_func gotoS_goto gotoS_normal gotoS_exit gotoS_ret skip_seq sliceE bnd bndHi intOf optOpd keepT_nil keepT_cons keepC_t keepC_f lk_nil lk_cons lkC_t lkC_f has_nil has_cons hasC_t hasC_f rep_nil rep_cons repC_t repC_f put_eq putC_t putC_f mem_nil mem_cons memC_t memC_f idx_nil idx_cons idxC_t idxC_f reach_nil reachP_cons reachQ_t reachQ_f ptrB_dead renB_dead ins_eq
attribute [local simp] n31_1s n31_3s n31_5s n31_8s n31_11s n31_14s n31_16s n31_17s n31_15s n31_13s n31_18s n31_12s n31_10s n31_19s n31_9s n31_7s n31_22s n31_27s n31_29s n31_30s n31_28s n31_26s n31_34s n31_36s n31_38s n31_44s n31_46s n31_47s n31_45s n31_43s n31_49s n31_48s n31_42s n31_41s n31_41g n31_40s n31_50s n31_39s n31_37s n31_35s n31_33s n31_32s n31_51s n31_31s n31_25s n31_24s n31_24g n31_23s n31_21s n31_53s n31_56s n31_60s n31_63s n31_64s n31_62s n31_68s n31_71s n31_73s n31_74s n31_72s n31_70s n31_75s n31_69s n31_67s n31_66s n31_76s n31_65s n31_61s n31_59s n31_58s n31_58g n31_57s n31_55s n31_78s n31_79s n31_77s n31_54s n31_52s n31_20s n31_6s n31_4s n31_2s n31_0s Try.f31
abbrev shV (r0 s0 r1 s1 r2 s2 : Int) (n : Nat) (o : Bool) (g : Int) : Value := .agg #[bv r0, bv s0, bv r1, bv s1, bv r2, bv s2, uv n, .bool o, bv g]
section
variable (r0 s0 r1 s1 r2 s2 : Int) (n : Nat) (g : Int) (h8 : I8 r0 ∧ I8 s0 ∧ I8 r1 ∧ I8 s1 ∧ I8 r2 ∧ I8 s2 ∧ I8 g) (hn : n < 256)
include h8 hn
theorem r31A1 (hc : n % 3 = 0) : (shP r0 s0 r1 s1 r2 s2 n false g).length = 2 ∧ (shQ r0 s0 r1 s1 r2 s2 n false).length = 1 ∧ LL.run 31 [shV r0 s0 r1 s1 r2 s2 n false g] [] =
    some ⟨.tuple #[sl 0 0 2 2, sl 1 0 1 1, .bool (okP (shP r0 s0 r1 s1 r2 s2 n false g))], [zB (shP r0 s0 r1 s1 r2 s2 n false g), rtB (shQ r0 s0 r1 s1 r2 s2 n false)], []⟩ := by
  obtain ⟨P, R, hP, hR, l1, l2, bd, lp⟩ := bA1 r0 s0 r1 s1 r2 s2 n false g h8 hn
  have a58 := l58 r0 s0 r1 s1 r2 s2 n false g h8.2.2.2.2.2.2 P (by omega) (BdM_up bd (by omega)) 1 (rtC R)
  have eC : shC n false = 1 := by unfold shC; rw [cond_false, hc]
  have eB : shB0 false g = [1] := rfl
  have t3 : Int.tmod (n : Int) 3 = 0 := by rw [Int.tmod_eq_emod_of_nonneg (by omega)]; omega
  have eL : shL r0 s0 r1 s1 r2 s2 n false = [shR r0 s0] := by unfold shL; rw [eC]; rfl
  have eP : shP r0 s0 r1 s1 r2 s2 n false g = negP g P := by unfold shP; rw [eL, eB, hP]; rfl
  have eR : shQ r0 s0 r1 s1 r2 s2 n false = R := by unfold shQ; rw [eL, hR]; rfl
  rw [eP, eR, negP_len]
  refine ⟨l1, l2, go (by decide) ?_⟩
  rw [l1, show ((2 : Nat) : Int) = 2 from rfl] at a58
  clear eP eR eL eC eB hP hR bd
  have wn : IntKind.i64.wrap (n : Int) = n := wrap_i64_id (by omega) (by omega)
  simp only [rtB] at lp ⊢
  simp only [zB] at a58 lp ⊢
  generalize zm P = X at *
  generalize zm (negP g P) = Y at *
  generalize okP (negP g P) = Z at *
  generalize rtC R = RR at *
  simp only [zm, List.map_cons, List.map_nil] at lp
  rw [run31 _ _ _ (by simp)]
  simp (maxSteps := 1000000) (disch := first | omega | decide | assumption | simp [scal]) [o_indexAddrS es_22, ze_22, o_buildSlice es_22 ze_22 (by decide) ba_22_1, o_fieldAddr fa_54_1 (by decide), loadA_eq ia_5, o_convI cv_5_3, o_fieldAddr fa_54_2 (by decide), loadA_eq ia_4, o_buildSlice es_22 ze_22 (by decide) ba_22_3, o_fieldAddr fa_54_3 (by decide), loadA_eq ia_50, o_fieldAddr fa_54_0 (by decide), o_indexAddrA ea_52, o_indexAddrA ea_51, o_convI cv_50_3, za_24, sz_24, o_fieldAddr fa_24_0 (by decide), loadA_eq ia_3, o_fieldAddr fa_24_1 (by decide), o_buildSlice es_22 ze_22 (by decide) ba_22_2, lenA_sl lk_55, o_indexAddrS es_55, ze_55, o_buildSlice es_55 ze_55 (by decide) ba_55_0, o_sliceS sl_55, ap_55, builtin_append ni_55, loadA_eq ia_24, o_buildSlice es_55 ze_55 (by decide) ba_55_1, lenA_sl lk_22, sz_3, want_some q31_44g4, want_some q31_75g1, want_some q31_75g8, t3, wn, lp, a58]
theorem r31A2 (hc : n % 3 = 1) : (shP r0 s0 r1 s1 r2 s2 n false g).length = 3 ∧ (shQ r0 s0 r1 s1 r2 s2 n false).length = 2 ∧ LL.run 31 [shV r0 s0 r1 s1 r2 s2 n false g] [] =
    some ⟨.tuple #[sl 0 0 3 3, sl 1 0 2 2, .bool (okP (shP r0 s0 r1 s1 r2 s2 n false g))], [zB (shP r0 s0 r1 s1 r2 s2 n false g), rtB (shQ r0 s0 r1 s1 r2 s2 n false)], []⟩ := by
  obtain ⟨P, R, hP, hR, l1, l2, bd, lp⟩ := bA2 r0 s0 r1 s1 r2 s2 n false g h8 hn
  have a58 := l58 r0 s0 r1 s1 r2 s2 n false g h8.2.2.2.2.2.2 P (by omega) (BdM_up bd (by omega)) 2 (rtC R)
  have eC : shC n false = 2 := by unfold shC; rw [cond_false, hc]
  have eB : shB0 false g = [1] := rfl
  have t3 : Int.tmod (n : Int) 3 = 1 := by rw [Int.tmod_eq_emod_of_nonneg (by omega)]; omega
  have eL : shL r0 s0 r1 s1 r2 s2 n false = [shR r0 s0, shR r1 s1] := by unfold shL; rw [eC]; rfl
  have eP : shP r0 s0 r1 s1 r2 s2 n false g = negP g P := by unfold shP; rw [eL, eB, hP]; rfl
  have eR : shQ r0 s0 r1 s1 r2 s2 n false = R := by unfold shQ; rw [eL, hR]; rfl
  rw [eP, eR, negP_len]
  refine ⟨l1, l2, go (by decide) ?_⟩
  rw [l1, show ((3 : Nat) : Int) = 3 from rfl] at a58
  clear eP eR eL eC eB hP hR bd
  have wn : IntKind.i64.wrap (n : Int) = n := wrap_i64_id (by omega) (by omega)
  simp only [rtB] at lp ⊢
  simp only [zB] at a58 lp ⊢
  generalize zm P = X at *
  generalize zm (negP g P) = Y at *
  generalize okP (negP g P) = Z at *
  generalize rtC R = RR at *
  simp only [zm, List.map_cons, List.map_nil] at lp
  rw [run31 _ _ _ (by simp)]
  simp (maxSteps := 1000000) (disch := first | omega | decide | assumption | simp [scal]) [o_indexAddrS es_22, ze_22, o_buildSlice es_22 ze_22 (by decide) ba_22_1, o_fieldAddr fa_54_1 (by decide), loadA_eq ia_5, o_convI cv_5_3, o_fieldAddr fa_54_2 (by decide), loadA_eq ia_4, o_buildSlice es_22 ze_22 (by decide) ba_22_3, o_fieldAddr fa_54_3 (by decide), loadA_eq ia_50, o_fieldAddr fa_54_0 (by decide), o_indexAddrA ea_52, o_indexAddrA ea_51, o_convI cv_50_3, za_24, sz_24, o_fieldAddr fa_24_0 (by decide), loadA_eq ia_3, o_fieldAddr fa_24_1 (by decide), o_buildSlice es_22 ze_22 (by decide) ba_22_2, lenA_sl lk_55, o_indexAddrS es_55, ze_55, o_buildSlice es_55 ze_55 (by decide) ba_55_0, o_sliceS sl_55, ap_55, builtin_append ni_55, loadA_eq ia_24, o_buildSlice es_55 ze_55 (by decide) ba_55_1, lenA_sl lk_22, sz_3, want_some q31_44g4, want_some q31_75g1, want_some q31_75g8, t3, wn, lp, a58]
theorem r31A3 (hc : n % 3 = 2) : (shP r0 s0 r1 s1 r2 s2 n false g).length = 4 ∧ (shQ r0 s0 r1 s1 r2 s2 n false).length = 3 ∧ LL.run 31 [shV r0 s0 r1 s1 r2 s2 n false g] [] =
    some ⟨.tuple #[sl 0 0 4 4, sl 1 0 3 3, .bool (okP (shP r0 s0 r1 s1 r2 s2 n false g))], [zB (shP r0 s0 r1 s1 r2 s2 n false g), rtB (shQ r0 s0 r1 s1 r2 s2 n false)], []⟩ := by
  obtain ⟨P, R, hP, hR, l1, l2, bd, lp⟩ := bA3 r0 s0 r1 s1 r2 s2 n false g h8 hn
  have a58 := l58 r0 s0 r1 s1 r2 s2 n false g h8.2.2.2.2.2.2 P (by omega) (BdM_up bd (by omega)) 3 (rtC R)
  have eC : shC n false = 3 := by unfold shC; rw [cond_false, hc]
  have eB : shB0 false g = [1] := rfl
  have t3 : Int.tmod (n : Int) 3 = 2 := by rw [Int.tmod_eq_emod_of_nonneg (by omega)]; omega
  have eL : shL r0 s0 r1 s1 r2 s2 n false = [shR r0 s0, shR r1 s1, shR r2 s2] := by unfold shL; rw [eC]; rfl
  have eP : shP r0 s0 r1 s1 r2 s2 n false g = negP g P := by unfold shP; rw [eL, eB, hP]; rfl
  have eR : shQ r0 s0 r1 s1 r2 s2 n false = R := by unfold shQ; rw [eL, hR]; rfl
  rw [eP, eR, negP_len]
  refine ⟨l1, l2, go (by decide) ?_⟩
  rw [l1, show ((4 : Nat) : Int) = 4 from rfl] at a58
  clear eP eR eL eC eB hP hR bd
  have wn : IntKind.i64.wrap (n : Int) = n := wrap_i64_id (by omega) (by omega)
  simp only [rtB] at lp ⊢
  simp only [zB] at a58 lp ⊢
  generalize zm P = X at *
  generalize zm (negP g P) = Y at *
  generalize okP (negP g P) = Z at *
  generalize rtC R = RR at *
  simp only [zm, List.map_cons, List.map_nil] at lp
  rw [run31 _ _ _ (by simp)]
  simp (maxSteps := 1000000) (disch := first | omega | decide | assumption | simp [scal]) [o_indexAddrS es_22, ze_22, o_buildSlice es_22 ze_22 (by decide) ba_22_1, o_fieldAddr fa_54_1 (by decide), loadA_eq ia_5, o_convI cv_5_3, o_fieldAddr fa_54_2 (by decide), loadA_eq ia_4, o_buildSlice es_22 ze_22 (by decide) ba_22_3, o_fieldAddr fa_54_3 (by decide), loadA_eq ia_50, o_fieldAddr fa_54_0 (by decide), o_indexAddrA ea_52, o_indexAddrA ea_51, o_convI cv_50_3, za_24, sz_24, o_fieldAddr fa_24_0 (by decide), loadA_eq ia_3, o_fieldAddr fa_24_1 (by decide), o_buildSlice es_22 ze_22 (by decide) ba_22_2, lenA_sl lk_55, o_indexAddrS es_55, ze_55, o_buildSlice es_55 ze_55 (by decide) ba_55_0, o_sliceS sl_55, ap_55, builtin_append ni_55, loadA_eq ia_24, o_buildSlice es_55 ze_55 (by decide) ba_55_1, lenA_sl lk_22, sz_3, want_some q31_44g4, want_some q31_75g1, want_some q31_75g8, t3, wn, lp, a58]
theorem r31B0 (hc : n % 2 = 0) (hg : g.tmod 2 = 0) : (shP r0 s0 r1 s1 r2 s2 n true g).length = 3 ∧ (shQ r0 s0 r1 s1 r2 s2 n true).length = 0 ∧ LL.run 31 [shV r0 s0 r1 s1 r2 s2 n true g] [] =
    some ⟨.tuple #[sl 0 0 3 3, sl 1 0 0 0, .bool (okP (shP r0 s0 r1 s1 r2 s2 n true g))], [zB (shP r0 s0 r1 s1 r2 s2 n true g), rtB (shQ r0 s0 r1 s1 r2 s2 n true)], []⟩ := by
  obtain ⟨P, R, hP, hR, l1, l2, bd, lp⟩ := bB0 r0 s0 r1 s1 r2 s2 n true g h8 hn
  have a58 := l58 r0 s0 r1 s1 r2 s2 n true g h8.2.2.2.2.2.2 P (by omega) (BdM_up bd (by omega)) 0 (rtC R)
  have eC : shC n true = 0 := by unfold shC; rw [cond_true, hc]
  have eB : shB0 true g = [2, 0, 1] := by unfold shB0; rw [cond_true, decide_eq_true hg, cond_true]
  have t2 : Int.tmod (n : Int) 2 = 0 := by rw [Int.tmod_eq_emod_of_nonneg (by omega)]; omega
  have t3 : IntKind.i64.wrap (1 + Int.tmod (n : Int) 3) = 1 + Int.tmod (n : Int) 3 := by have := tmod_bd (a := (n : Int)) 3 (by decide); exact wrap_i64_id (by omega) (by omega)
  have eL : shL r0 s0 r1 s1 r2 s2 n true = [] := by unfold shL; rw [eC]; rfl
  have eP : shP r0 s0 r1 s1 r2 s2 n true g = negP g P := by unfold shP; rw [eL, eB, hP]; rfl
  have eR : shQ r0 s0 r1 s1 r2 s2 n true = R := by unfold shQ; rw [eL, hR]; rfl
  rw [eP, eR, negP_len]
  refine ⟨l1, l2, go (by decide) ?_⟩
  rw [l1, show ((3 : Nat) : Int) = 3 from rfl] at a58
  clear eP eR eL eC eB hP hR bd
  have wn : IntKind.i64.wrap (n : Int) = n := wrap_i64_id (by omega) (by omega)
  simp only [rtB] at lp ⊢
  simp only [zB] at a58 lp ⊢
  generalize zm P = X at *
  generalize zm (negP g P) = Y at *
  generalize okP (negP g P) = Z at *
  generalize rtC R = RR at *
  simp only [zm, List.map_cons, List.map_nil] at lp
  rw [run31 _ _ _ (by simp)]
  simp (maxSteps := 1000000) (disch := first | omega | decide | assumption | simp [scal]) [o_indexAddrS es_22, ze_22, o_buildSlice es_22 ze_22 (by decide) ba_22_1, o_fieldAddr fa_54_1 (by decide), loadA_eq ia_5, o_convI cv_5_3, o_fieldAddr fa_54_2 (by decide), loadA_eq ia_4, o_buildSlice es_22 ze_22 (by decide) ba_22_3, o_fieldAddr fa_54_3 (by decide), loadA_eq ia_50, o_fieldAddr fa_54_0 (by decide), o_indexAddrA ea_52, o_indexAddrA ea_51, o_convI cv_50_3, za_24, sz_24, o_fieldAddr fa_24_0 (by decide), loadA_eq ia_3, o_fieldAddr fa_24_1 (by decide), o_buildSlice es_22 ze_22 (by decide) ba_22_2, lenA_sl lk_55, o_indexAddrS es_55, ze_55, o_buildSlice es_55 ze_55 (by decide) ba_55_0, o_sliceS sl_55, ap_55, builtin_append ni_55, loadA_eq ia_24, o_buildSlice es_55 ze_55 (by decide) ba_55_1, lenA_sl lk_22, sz_3, want_some q31_44g4, want_some q31_75g1, want_some q31_75g8, t2, t3, hg, wn, lp, a58]
theorem r31B1 (hc : n % 2 = 1) (hg : g.tmod 2 = 0) : (shP r0 s0 r1 s1 r2 s2 n true g).length = 4 ∧ (shQ r0 s0 r1 s1 r2 s2 n true).length = 1 ∧ LL.run 31 [shV r0 s0 r1 s1 r2 s2 n true g] [] =
    some ⟨.tuple #[sl 0 0 4 4, sl 1 0 1 1, .bool (okP (shP r0 s0 r1 s1 r2 s2 n true g))], [zB (shP r0 s0 r1 s1 r2 s2 n true g), rtB (shQ r0 s0 r1 s1 r2 s2 n true)], []⟩ := by
  obtain ⟨P, R, hP, hR, l1, l2, bd, lp⟩ := bB1 r0 s0 r1 s1 r2 s2 n true g h8 hn
  have a58 := l58 r0 s0 r1 s1 r2 s2 n true g h8.2.2.2.2.2.2 P (by omega) (BdM_up bd (by omega)) 1 (rtC R)
  have eC : shC n true = 1 := by unfold shC; rw [cond_true, hc]
  have eB : shB0 true g = [2, 0, 1] := by unfold shB0; rw [cond_true, decide_eq_true hg, cond_true]
  have t2 : Int.tmod (n : Int) 2 = 1 := by rw [Int.tmod_eq_emod_of_nonneg (by omega)]; omega
  have t3 : IntKind.i64.wrap (1 + Int.tmod (n : Int) 3) = 1 + Int.tmod (n : Int) 3 := by have := tmod_bd (a := (n : Int)) 3 (by decide); exact wrap_i64_id (by omega) (by omega)
  have eL : shL r0 s0 r1 s1 r2 s2 n true = [shR r0 s0] := by unfold shL; rw [eC]; rfl
  have eP : shP r0 s0 r1 s1 r2 s2 n true g = negP g P := by unfold shP; rw [eL, eB, hP]; rfl
  have eR : shQ r0 s0 r1 s1 r2 s2 n true = R := by unfold shQ; rw [eL, hR]; rfl
  rw [eP, eR, negP_len]
  refine ⟨l1, l2, go (by decide) ?_⟩
  rw [l1, show ((4 : Nat) : Int) = 4 from rfl] at a58
  clear eP eR eL eC eB hP hR bd
  have wn : IntKind.i64.wrap (n : Int) = n := wrap_i64_id (by omega) (by omega)
  simp only [rtB] at lp ⊢
  simp only [zB] at a58 lp ⊢
  generalize zm P = X at *
  generalize zm (negP g P) = Y at *
  generalize okP (negP g P) = Z at *
  generalize rtC R = RR at *
  simp only [zm, List.map_cons, List.map_nil] at lp
  rw [run31 _ _ _ (by simp)]
  simp (maxSteps := 1000000) (disch := first | omega | decide | assumption | simp [scal]) [o_indexAddrS es_22, ze_22, o_buildSlice es_22 ze_22 (by decide) ba_22_1, o_fieldAddr fa_54_1 (by decide), loadA_eq ia_5, o_convI cv_5_3, o_fieldAddr fa_54_2 (by decide), loadA_eq ia_4, o_buildSlice es_22 ze_22 (by decide) ba_22_3, o_fieldAddr fa_54_3 (by decide), loadA_eq ia_50, o_fieldAddr fa_54_0 (by decide), o_indexAddrA ea_52, o_indexAddrA ea_51, o_convI cv_50_3, za_24, sz_24, o_fieldAddr fa_24_0 (by decide), loadA_eq ia_3, o_fieldAddr fa_24_1 (by decide), o_buildSlice es_22 ze_22 (by decide) ba_22_2, lenA_sl lk_55, o_indexAddrS es_55, ze_55, o_buildSlice es_55 ze_55 (by decide) ba_55_0, o_sliceS sl_55, ap_55, builtin_append ni_55, loadA_eq ia_24, o_buildSlice es_55 ze_55 (by decide) ba_55_1, lenA_sl lk_22, sz_3, want_some q31_44g4, want_some q31_75g1, want_some q31_75g8, t2, t3, hg, wn, lp, a58]
theorem r31C0 (hc : n % 2 = 0) (hg : ¬ g.tmod 2 = 0) : (shP r0 s0 r1 s1 r2 s2 n true g).length = 3 ∧ (shQ r0 s0 r1 s1 r2 s2 n true).length = 0 ∧ LL.run 31 [shV r0 s0 r1 s1 r2 s2 n true g] [] =
    some ⟨.tuple #[sl 0 0 3 3, sl 1 0 0 0, .bool (okP (shP r0 s0 r1 s1 r2 s2 n true g))], [zB (shP r0 s0 r1 s1 r2 s2 n true g), rtB (shQ r0 s0 r1 s1 r2 s2 n true)], []⟩ := by
  obtain ⟨P, R, hP, hR, l1, l2, bd, lp⟩ := bC0 r0 s0 r1 s1 r2 s2 n true g h8 hn
  have a58 := l58 r0 s0 r1 s1 r2 s2 n true g h8.2.2.2.2.2.2 P (by omega) (BdM_up bd (by omega)) 0 (rtC R)
  have eC : shC n true = 0 := by unfold shC; rw [cond_true, hc]
  have eB : shB0 true g = [1, 1, 1] := by unfold shB0; rw [cond_true, decide_eq_false hg, cond_false]
  have t2 : Int.tmod (n : Int) 2 = 0 := by rw [Int.tmod_eq_emod_of_nonneg (by omega)]; omega
  have t3 : IntKind.i64.wrap (1 + Int.tmod (n : Int) 3) = 1 + Int.tmod (n : Int) 3 := by have := tmod_bd (a := (n : Int)) 3 (by decide); exact wrap_i64_id (by omega) (by omega)
  have eL : shL r0 s0 r1 s1 r2 s2 n true = [] := by unfold shL; rw [eC]; rfl
  have eP : shP r0 s0 r1 s1 r2 s2 n true g = negP g P := by unfold shP; rw [eL, eB, hP]; rfl
  have eR : shQ r0 s0 r1 s1 r2 s2 n true = R := by unfold shQ; rw [eL, hR]; rfl
  rw [eP, eR, negP_len]
  refine ⟨l1, l2, go (by decide) ?_⟩
  rw [l1, show ((3 : Nat) : Int) = 3 from rfl] at a58
  clear eP eR eL eC eB hP hR bd
  have wn : IntKind.i64.wrap (n : Int) = n := wrap_i64_id (by omega) (by omega)
  simp only [rtB] at lp ⊢
  simp only [zB] at a58 lp ⊢
  generalize zm P = X at *
  generalize zm (negP g P) = Y at *
  generalize okP (negP g P) = Z at *
  generalize rtC R = RR at *
  simp only [zm, List.map_cons, List.map_nil] at lp
  rw [run31 _ _ _ (by simp)]
  simp (maxSteps := 1000000) (disch := first | omega | decide | assumption | simp [scal]) [o_indexAddrS es_22, ze_22, o_buildSlice es_22 ze_22 (by decide) ba_22_1, o_fieldAddr fa_54_1 (by decide), loadA_eq ia_5, o_convI cv_5_3, o_fieldAddr fa_54_2 (by decide), loadA_eq ia_4, o_buildSlice es_22 ze_22 (by decide) ba_22_3, o_fieldAddr fa_54_3 (by decide), loadA_eq ia_50, o_fieldAddr fa_54_0 (by decide), o_indexAddrA ea_52, o_indexAddrA ea_51, o_convI cv_50_3, za_24, sz_24, o_fieldAddr fa_24_0 (by decide), loadA_eq ia_3, o_fieldAddr fa_24_1 (by decide), o_buildSlice es_22 ze_22 (by decide) ba_22_2, lenA_sl lk_55, o_indexAddrS es_55, ze_55, o_buildSlice es_55 ze_55 (by decide) ba_55_0, o_sliceS sl_55, ap_55, builtin_append ni_55, loadA_eq ia_24, o_buildSlice es_55 ze_55 (by decide) ba_55_1, lenA_sl lk_22, sz_3, want_some q31_44g4, want_some q31_75g1, want_some q31_75g8, t2, t3, hg, wn, lp, a58]
theorem r31C1 (hc : n % 2 = 1) (hg : ¬ g.tmod 2 = 0) : (shP r0 s0 r1 s1 r2 s2 n true g).length = 4 ∧ (shQ r0 s0 r1 s1 r2 s2 n true).length = 1 ∧ LL.run 31 [shV r0 s0 r1 s1 r2 s2 n true g] [] =
    some ⟨.tuple #[sl 0 0 4 4, sl 1 0 1 1, .bool (okP (shP r0 s0 r1 s1 r2 s2 n true g))], [zB (shP r0 s0 r1 s1 r2 s2 n true g), rtB (shQ r0 s0 r1 s1 r2 s2 n true)], []⟩ := by
  obtain ⟨P, R, hP, hR, l1, l2, bd, lp⟩ := bC1 r0 s0 r1 s1 r2 s2 n true g h8 hn
  have a58 := l58 r0 s0 r1 s1 r2 s2 n true g h8.2.2.2.2.2.2 P (by omega) (BdM_up bd (by omega)) 1 (rtC R)
  have eC : shC n true = 1 := by unfold shC; rw [cond_true, hc]
  have eB : shB0 true g = [1, 1, 1] := by unfold shB0; rw [cond_true, decide_eq_false hg, cond_false]
  have t2 : Int.tmod (n : Int) 2 = 1 := by rw [Int.tmod_eq_emod_of_nonneg (by omega)]; omega
  have t3 : IntKind.i64.wrap (1 + Int.tmod (n : Int) 3) = 1 + Int.tmod (n : Int) 3 := by have := tmod_bd (a := (n : Int)) 3 (by decide); exact wrap_i64_id (by omega) (by omega)
  have eL : shL r0 s0 r1 s1 r2 s2 n true = [shR r0 s0] := by unfold shL; rw [eC]; rfl
  have eP : shP r0 s0 r1 s1 r2 s2 n true g = negP g P := by unfold shP; rw [eL, eB, hP]; rfl
  have eR : shQ r0 s0 r1 s1 r2 s2 n true = R := by unfold shQ; rw [eL, hR]; rfl
  rw [eP, eR, negP_len]
  refine ⟨l1, l2, go (by decide) ?_⟩
  rw [l1, show ((4 : Nat) : Int) = 4 from rfl] at a58
  clear eP eR eL eC eB hP hR bd
  have wn : IntKind.i64.wrap (n : Int) = n := wrap_i64_id (by omega) (by omega)
  simp only [rtB] at lp ⊢
  simp only [zB] at a58 lp ⊢
  generalize zm P = X at *
  generalize zm (negP g P) = Y at *
  generalize okP (negP g P) = Z at *
  generalize rtC R = RR at *
  simp only [zm, List.map_cons, List.map_nil] at lp
  rw [run31 _ _ _ (by simp)]
  simp (maxSteps := 1000000) (disch := first | omega | decide | assumption | simp [scal]) [o_indexAddrS es_22, ze_22, o_buildSlice es_22 ze_22 (by decide) ba_22_1, o_fieldAddr fa_54_1 (by decide), loadA_eq ia_5, o_convI cv_5_3, o_fieldAddr fa_54_2 (by decide), loadA_eq ia_4, o_buildSlice es_22 ze_22 (by decide) ba_22_3, o_fieldAddr fa_54_3 (by decide), loadA_eq ia_50, o_fieldAddr fa_54_0 (by decide), o_indexAddrA ea_52, o_indexAddrA ea_51, o_convI cv_50_3, za_24, sz_24, o_fieldAddr fa_24_0 (by decide), loadA_eq ia_3, o_fieldAddr fa_24_1 (by decide), o_buildSlice es_22 ze_22 (by decide) ba_22_2, lenA_sl lk_55, o_indexAddrS es_55, ze_55, o_buildSlice es_55 ze_55 (by decide) ba_55_0, o_sliceS sl_55, ap_55, builtin_append ni_55, loadA_eq ia_24, o_buildSlice es_55 ze_55 (by decide) ba_55_1, lenA_sl lk_22, sz_3, want_some q31_44g4, want_some q31_75g1, want_some q31_75g8, t2, t3, hg, wn, lp, a58]
theorem k31 (o : Bool) (h : List Blk) : callH LL 31 [shV r0 s0 r1 s1 r2 s2 n o g] h = some ⟨.tuple #[sl h.length 0 (shP r0 s0 r1 s1 r2 s2 n o g).length (shP r0 s0 r1 s1 r2 s2 n o g).length, sl (h.length + 1) 0 (shQ r0 s0 r1 s1 r2 s2 n o).length (shQ r0 s0 r1 s1 r2 s2 n o).length, .bool (okP (shP r0 s0 r1 s1 r2 s2 n o g))], h ++ [zB (shP r0 s0 r1 s1 r2 s2 n o g), rtB (shQ r0 s0 r1 s1 r2 s2 n o)], [], []⟩ ∧
    2 ≤ (shP r0 s0 r1 s1 r2 s2 n o g).length ∧ (shP r0 s0 r1 s1 r2 s2 n o g).length ≤ 4 ∧ (shQ r0 s0 r1 s1 r2 s2 n o).length ≤ 3 := by
  have key : ∃ a k : Nat, ((shP r0 s0 r1 s1 r2 s2 n o g).length = a ∧ (shQ r0 s0 r1 s1 r2 s2 n o).length = k ∧ LL.run 31 [shV r0 s0 r1 s1 r2 s2 n o g] [] =
      some ⟨.tuple #[sl 0 0 a a, sl 1 0 k k, .bool (okP (shP r0 s0 r1 s1 r2 s2 n o g))], [zB (shP r0 s0 r1 s1 r2 s2 n o g), rtB (shQ r0 s0 r1 s1 r2 s2 n o)], []⟩) ∧ 2 ≤ a ∧ a ≤ 4 ∧ k ≤ 3 := by
    cases o
    · rcases (by omega : n % 3 = 0 ∨ n % 3 = 1 ∨ n % 3 = 2) with hc | hc | hc
      · exact ⟨2, 1, r31A1 r0 s0 r1 s1 r2 s2 n g h8 hn hc, by decide, by decide, by decide⟩
      · exact ⟨3, 2, r31A2 r0 s0 r1 s1 r2 s2 n g h8 hn hc, by decide, by decide, by decide⟩
      · exact ⟨4, 3, r31A3 r0 s0 r1 s1 r2 s2 n g h8 hn hc, by decide, by decide, by decide⟩
    · by_cases hg : g.tmod 2 = 0
      · rcases (by omega : n % 2 = 0 ∨ n % 2 = 1) with hc | hc
        · exact ⟨3, 0, r31B0 r0 s0 r1 s1 r2 s2 n g h8 hn hc hg, by decide, by decide, by decide⟩
        · exact ⟨4, 1, r31B1 r0 s0 r1 s1 r2 s2 n g h8 hn hc hg, by decide, by decide, by decide⟩
      · rcases (by omega : n % 2 = 0 ∨ n % 2 = 1) with hc | hc
        · exact ⟨3, 0, r31C0 r0 s0 r1 s1 r2 s2 n g h8 hn hc hg, by decide, by decide, by decide⟩
        · exact ⟨4, 1, r31C1 r0 s0 r1 s1 r2 s2 n g h8 hn hc hg, by decide, by decide, by decide⟩
  obtain ⟨a, k, ⟨e1, e2, e3⟩, h1, h2, h3⟩ := key
  rw [e1, e2]
  refine ⟨callN_none rfl (fun _ => rfl) e3 (by intro blk hb; simp only [List.mem_cons, List.not_mem_nil, or_false] at hb; rcases hb with rfl | rfl <;> exact noIdB_flat) (by simp [renV, dep, optAll]), h1, h2, h3⟩
end
end Go.Proofs.Ytkmompbfcgjgmaa.nt
namespace Go.Proofs.Ytkmompbfcgjgmaa.nt
open Go.GE
set_option linter.unusedVariables false
set_option linter.unusedSimpArgs false
set_option linter.unusedSectionVars false
set_option maxRecDepth 100000
set_option maxHeartbeats 4000000
theorem mul_4 {M x b : Int} (hM : 0 ≤ M) (hx : -M ≤ x ∧ x ≤ M) (hb : 0 ≤ b ∧ b ≤ 4) : -(4 * M) ≤ x * b ∧ x * b ≤ 4 * M := by
  rcases (by omega : b = 0 ∨ b = 1 ∨ b = 2 ∨ b = 3 ∨ b = 4) with rfl | rfl | rfl | rfl | rfl <;> omega
theorem k33R {r s : Int × Int} (hr : okRt r) (hs : okRt s) (h : List Blk) : callH LL 33 [.agg #[iv r.1, iv r.2], .agg #[iv s.1, iv s.2]] h = some ⟨.bool (leR r s), h, [], []⟩ := by
  unfold okRt at *
  have e1 := mul_4 (M := 3) (x := r.1) (b := s.2) (by omega) (by omega) (by omega)
  have e2 := mul_4 (M := 3) (x := s.1) (b := r.2) (by omega) (by omega) (by omega)
  exact k33 r.1 r.2 s.1 s.2 (by unfold Sm; omega) (by unfold Sm; omega) h
end Go.Proofs.Ytkmompbfcgjgmaa.nt
namespace Go.Proofs.Ytkmompbfcgjgmaa.nt
open Go.GE
set_option linter.unusedVariables false
set_option linter.unusedSimpArgs false
set_option linter.unusedSectionVars false
set_option maxRecDepth 100000
set_option maxHeartbeats 4000000
theorem insR_mem {r x : Int × Int} : ∀ {l : List (Int × Int)}, x ∈ insR l r → x = r ∨ x ∈ l := by
  intro l
  induction l with
  | nil => intro h; simp [insR] at h; exact .inl h
  | cons a l ih =>
    intro h
    unfold insR at h
    split at h
    · rcases List.mem_cons.1 h with rfl | h
      · exact .inr (by simp)
      · rcases ih h with h | h
        · exact .inl h
        · exact .inr (by simp [h])
    · rcases List.mem_cons.1 h with rfl | h
      · exact .inl rfl
      · exact .inr h
theorem fldR_ok : ∀ (l R : List (Int × Int)), (∀ x, x ∈ l → okRt x) → (∀ x, x ∈ R → okRt x) → ∀ x, x ∈ fldR l R → okRt x := by
  intro l
  induction l with
  | nil => intro R _ h x hx; exact h x hx
  | cons r l ih =>
    intro R h1 h2 x hx
    exact ih (insR R r) (fun y hy => h1 y (by simp [hy])) (fun y hy => by
      rcases insR_mem hy with rfl | hy
      · exact h1 y (by simp)
      · exact h2 y hy) x hx
theorem shQ_ok {r0 s0 r1 s1 r2 s2 : Int} {n : Nat} {o : Bool} : ∀ x, x ∈ shQ r0 s0 r1 s1 r2 s2 n o → okRt x := by
  refine fldR_ok _ _ (fun x hx => ?_) (fun x hx => by cases hx)
  have := List.mem_of_mem_take hx
  simp only [List.mem_cons, List.not_mem_nil, or_false] at this
  rcases this with rfl | rfl | rfl <;> exact shR_ok _ _
end Go.Proofs.Ytkmompbfcgjgmaa.nt
namespace Go.Proofs.Ytkmompbfcgjgmaa.nt
open Go.GE
set_option linter.unusedVariables false
set_option linter.unusedSimpArgs false
set_option linter.unusedSectionVars false
set_option maxRecDepth 100000
set_option maxHeartbeats 4000000
/-- the sign of a value, as 0, 1 or 2; the argument is (xp - xn) / 4, values are differences -/
def evN (xp xn : Nat) : List (Nat × Nat) → Nat → Nat → Nat → Nat
  | [], sp, sn, _ => bif Nat.blt sn sp then 1 else bif Nat.blt sp sn then 2 else 0
  | c :: r, sp, sn, w => evN xp xn r (Nat.add (Nat.add (Nat.mul sp xp) (Nat.mul sn xn)) (Nat.mul c.1 w)) (Nat.add (Nat.add (Nat.mul sp xn) (Nat.mul sn xp)) (Nat.mul c.2 w)) (Nat.mul w 4)
def chM (xp xn : Nat) : List (List (Nat × Nat)) → Nat → Nat → Nat
  | [], _, n => n
  | q :: S, l, n => (fun s => bif Nat.beq s 0 then chM xp xn S l n else chM xp xn S s (bif Nat.beq l 0 then n else bif Nat.beq s l then n else Nat.succ n)) (evN xp xn q 0 0 1)
def toQ (q : List Int) : List (Nat × Nat) := q.reverse.map fun c => (c.toNat, (-c).toNat)
def toN (S : List (List Int)) : List (List (Nat × Nat)) := S.map toQ
def dN (j : Nat) : Nat → List Nat → Nat
  | _, [] => 0
  | pv, h :: l => bif Nat.ble h j then (bif Nat.ble h pv then dN j h l else Nat.succ (dN j h l)) else dN j h l
def aN (j : Nat) : List Nat → Nat
  | [] => 0
  | h :: l => bif Nat.ble h j then Nat.succ (aN j l) else aN j l
abbrev GP := Nat × Nat × Nat
def vN (S : List (List (Nat × Nat))) (H : List Nat) (e : GP) : Nat := Nat.add (chM e.1 e.2.1 S 0 0) (dN e.2.2 0 H)
def scN (S F : List (List (Nat × Nat))) (H : List Nat) : List GP → Nat → Nat → Bool
  | [], _, _ => true
  | e :: l, v, g => Nat.beq (vN S H e) v && (fun g2 => Nat.ble g2 g && Nat.beq (Nat.mod (Nat.sub g g2) 2) 0 && scN S F H l v g2) (Nat.add (chM e.1 e.2.1 F 0 0) (aN e.2.2 H))
/-- a sign, from its number -/
def dc (s : Nat) : Int := if s = 1 then 1 else if s = 2 then -1 else 0
theorem dc_inj {a b : Nat} (ha : a ≤ 2) (hb : b ≤ 2) : dc a = dc b ↔ a = b := by
  rcases (by omega : a = 0 ∨ a = 1 ∨ a = 2) with rfl | rfl | rfl <;> rcases (by omega : b = 0 ∨ b = 1 ∨ b = 2) with rfl | rfl | rfl <;> simp [dc]
end Go.Proofs.Ytkmompbfcgjgmaa.nt
namespace Go.Proofs.Ytkmompbfcgjgmaa.nt
open Go.GE
set_option linter.unusedVariables false
set_option linter.unusedSimpArgs false
set_option linter.unusedSectionVars false
set_option maxRecDepth 100000
set_option maxHeartbeats 4000000
def gridL : List GP := [(0, 64, 0), (0, 62, 2), (0, 60, 4), (0, 58, 6), (0, 56, 8), (0, 54, 10), (0, 52, 12), (0, 50, 14), (0, 48, 16), (0, 46, 18), (0, 44, 20), (0, 42, 22), (0, 40, 24), (0, 38, 26), (0, 36, 28), (0, 34, 30), (0, 32, 32), (0, 31, 33), (0, 30, 34), (0, 29, 35), (0, 28, 36), (0, 27, 37), (0, 26, 38), (0, 25, 39), (0, 24, 40), (0, 23, 41), (0, 22, 42), (0, 21, 43), (0, 20, 44), (0, 19, 45), (0, 18, 46), (0, 17, 47), (0, 16, 48), (0, 15, 49), (0, 14, 50), (0, 13, 51), (0, 12, 52), (0, 11, 53), (0, 10, 54), (0, 9, 55), (0, 8, 56), (0, 7, 57), (0, 6, 58), (0, 5, 59), (0, 4, 60), (0, 3, 61), (0, 2, 62), (0, 1, 63), (0, 0, 64), (1, 0, 65), (2, 0, 66), (3, 0, 67), (4, 0, 68), (5, 0, 69), (6, 0, 70), (7, 0, 71), (8, 0, 72), (9, 0, 73), (10, 0, 74), (11, 0, 75), (12, 0, 76), (13, 0, 77), (14, 0, 78), (15, 0, 79), (16, 0, 80), (17, 0, 81), (18, 0, 82), (19, 0, 83), (20, 0, 84), (21, 0, 85), (22, 0, 86), (23, 0, 87), (24, 0, 88), (25, 0, 89), (26, 0, 90), (27, 0, 91), (28, 0, 92), (29, 0, 93), (30, 0, 94), (31, 0, 95), (32, 0, 96), (34, 0, 98), (36, 0, 100), (38, 0, 102), (40, 0, 104), (42, 0, 106), (44, 0, 108), (46, 0, 110), (48, 0, 112), (50, 0, 114), (52, 0, 116), (54, 0, 118), (56, 0, 120), (58, 0, 122), (60, 0, 124), (62, 0, 126), (64, 0, 128)]
/-- a root, in quarters, 64 added -/
def hv (r : Int × Int) : Int := bif decide (r.2 = 1) then 2 * r.1 else r.1
def tNr (r : Int × Int) : Nat := (2 * hv r + 64).toNat
def bndS (S : List (List Int)) : Bool := S.all fun q => Nat.ble 1 q.length && Nat.ble q.length 4 && q.all fun c => Nat.ble c.natAbs 1000000000
def scA (S F : List (List (Nat × Nat))) (T : List Nat) : Bool := scN S F T gridL (vN S T (0, 64, 0)) (Nat.add (chM 0 64 F 0 0) (aN 0 T))
/-- the check of a polynomial and its roots -/
def ckS (P : List Int) (T : List Nat) : Bool := decide (chkE P = 0) && stuB P && fouB P && bndS (stu P) && bndS (fou P) && scA (toN (stu P)) (toN (fou P)) T
theorem evB_small {x y : Int} (hx : x.natAbs ≤ 32) (hy : y.natAbs ≤ 4) : ∀ (r : List Int) (k : Nat) (s w : Int), (∀ c, c ∈ r → c.natAbs ≤ 1000000000) → k + r.length ≤ 4 → s.natAbs ≤ 1000000000 * 100 ^ k → w.natAbs ≤ 4 ^ k → evB x y r s w = true := by
  intro r
  induction r with
  | nil => intro k s w _ _ _ _; rfl
  | cons c r ih =>
    intro k s w hc hk hs hw
    have h1 := hc c (by simp)
    simp only [List.length_cons] at hk
    have hA : 100 ^ k ≤ 100 ^ 3 := Nat.pow_le_pow_right (by decide) (by omega)
    have hBA : 4 ^ k ≤ 100 ^ k := Nat.pow_le_pow_left (by decide) k
    have m1 : (s * x).natAbs ≤ 1000000000 * 100 ^ k * 32 := by rw [Int.natAbs_mul]; exact Nat.mul_le_mul hs hx
    have m2 : (c * w).natAbs ≤ 1000000000 * 4 ^ k := by rw [Int.natAbs_mul]; exact Nat.mul_le_mul h1 hw
    have m3 : (w * y).natAbs ≤ 4 ^ k * 4 := by rw [Int.natAbs_mul]; exact Nat.mul_le_mul hw hy
    have m4 := Int.natAbs_add_le (s * x) (c * w)
    have e1 : 100 ^ (k + 1) = 100 ^ k * 100 := Nat.pow_succ ..
    have e2 : 4 ^ (k + 1) = 4 ^ k * 4 := Nat.pow_succ ..
    have e3 : (100 : Nat) ^ 3 = 1000000 := rfl
    have i := ih (k + 1) (s * x + c * w) (w * y) (fun d hd => hc d (by simp [hd])) (by omega) (by omega) (by omega)
    simp only [evB, i, Bool.and_true]
    unfold okI
    simp only [Bool.and_eq_true, decide_eq_true_eq]
    omega
theorem evA_small {S : List (List Int)} (h : bndS S = true) {x y : Int} (hx : x.natAbs ≤ 32) (hy : y.natAbs ≤ 4) : evA S x y = true := by
  unfold bndS at h
  unfold evA
  rw [List.all_eq_true] at h ⊢
  intro q hq
  have := h q hq
  rw [Bool.and_eq_true, Bool.and_eq_true] at this
  obtain ⟨⟨a1, a2⟩, a3⟩ := this
  have b1 := Nat.le_of_ble_eq_true a1
  have b2 := Nat.le_of_ble_eq_true a2
  rw [Bool.and_eq_true, Bool.and_eq_true]
  refine ⟨⟨evB_small hx hy q.reverse 0 0 1 (fun c hc => ?_) (by rw [List.length_reverse]; omega) (by decide) (by decide), a1⟩, by rw [Nat.ble_eq]; omega⟩
  exact Nat.le_of_ble_eq_true (List.all_eq_true.1 a3 c (List.mem_reverse.1 hc))
def X24 (X : Int × Int) : Prop := -32 ≤ X.1 ∧ X.1 ≤ 32 ∧ (X.2 = 2 ∨ X.2 = 4)
theorem le_tr {r s : Int × Int} (hr : okRt r) (hs : okRt s) : leR r s = Nat.ble (tNr r) (tNr s) := by
  obtain ⟨r1, r2⟩ := r
  obtain ⟨x1, x2⟩ := s
  unfold okRt at hr hs
  simp only [] at hr hs
  rw [Bool.eq_iff_iff]
  unfold leR
  rw [Nat.ble_eq, decide_eq_true_eq]
  unfold tNr hv
  simp only []
  rcases (by omega : r2 = 1 ∨ r2 = 2) with rfl | rfl <;> rcases (by omega : x2 = 1 ∨ x2 = 2) with rfl | rfl <;> simp <;> omega
end Go.Proofs.Ytkmompbfcgjgmaa.nt
namespace Go.Proofs.Ytkmompbfcgjgmaa.nt
open Go.GE
set_option linter.unusedVariables false
set_option linter.unusedSimpArgs false
set_option linter.unusedSectionVars false
set_option maxRecDepth 1000000
set_option maxHeartbeats 4000000
def rtAll : List (Int × Int) := [(-3, 1), (-3, 2), (-2, 1), (-2, 2), (-1, 1), (-1, 2), (0, 1), (0, 2), (1, 1), (1, 2), (2, 1), (2, 2), (3, 1), (3, 2)]
theorem rt_mem {r : Int × Int} (h : okRt r) : r ∈ rtAll := by
  obtain ⟨a, b⟩ := r
  unfold okRt at h
  simp only [] at h
  rcases (by omega : a = -3 ∨ a = -2 ∨ a = -1 ∨ a = 0 ∨ a = 1 ∨ a = 2 ∨ a = 3) with rfl | rfl | rfl | rfl | rfl | rfl | rfl <;> rcases (by omega : b = 1 ∨ b = 2) with rfl | rfl <;> decide
def rk (r : Int × Int) : Nat := (2 * (r.1 + 3) + (r.2 - 1)).toNat
def ngP (P : List Int) : List Int := P.map fun x => -x
def ckN (P : List Int) : Bool := (fun Q => decide (chkE Q = 0) && stuB Q && fouB Q && bndS (fou Q) && decide (stu Q = stu P)) (ngP P)
def ckA (l : List (Int × Int)) (base : List Int) : Bool := (fun P => bif okP P then ckS P ((fldR l []).map tNr) && ckN P else true) (fldP l base)
theorem inC_neg {x : Int} : inC (-x) = inC x := by
  rw [Bool.eq_iff_iff]
  unfold inC
  simp only [Bool.and_eq_true, decide_eq_true_eq]
  omega
theorem okP_neg {g : Int} {P : List Int} : okP (negP g P) = okP P := by
  unfold negP okP
  cases decide (g < 0)
  · rfl
  · rw [cond_true, List.all_map]
    congr 1
    funext x
    exact inC_neg
def srt2 (a b : Int × Int) : List (Int × Int) := bif Nat.ble (rk a) (rk b) then [a, b] else [b, a]
def srt3 (a b c : Int × Int) : List (Int × Int) :=
  bif Nat.ble (rk a) (rk b) then (bif Nat.ble (rk b) (rk c) then [a, b, c] else bif Nat.ble (rk a) (rk c) then [a, c, b] else [c, a, b])
  else (bif Nat.ble (rk a) (rk c) then [b, a, c] else bif Nat.ble (rk b) (rk c) then [b, c, a] else [c, b, a])
def eqL : List Int → List Int → Bool
  | [], [] => true
  | a :: l, b :: m => (a == b) && eqL l m
  | _, _ => false
def eqN : List Nat → List Nat → Bool
  | [], [] => true
  | a :: l, b :: m => Nat.beq a b && eqN l m
  | _, _ => false
theorem eqL_eq : ∀ {l m : List Int}, eqL l m = true → l = m := by
  intro l
  induction l with
  | nil => intro m h; cases m <;> simp [eqL] at h ⊢
  | cons a l ih =>
    intro m h
    cases m with
    | nil => simp [eqL] at h
    | cons b m =>
      simp only [eqL, Bool.and_eq_true, beq_iff_eq] at h
      rw [h.1, ih h.2]
theorem eqN_eq : ∀ {l m : List Nat}, eqN l m = true → l = m := by
  intro l
  induction l with
  | nil => intro m h; cases m <;> simp [eqN] at h ⊢
  | cons a l ih =>
    intro m h
    cases m with
    | nil => simp [eqN] at h
    | cons b m =>
      simp only [eqN, Bool.and_eq_true] at h
      rw [Nat.eq_of_beq_eq_true h.1, ih h.2]
def pm3 (a b c : Int × Int) : Bool := eqL (fldP [a, b, c] [1]) (fldP (srt3 a b c) [1]) && eqN ((fldR [a, b, c] []).map tNr) ((fldR (srt3 a b c) []).map tNr)
def pm2 (a b : Int × Int) : Bool := eqL (fldP [a, b] [1]) (fldP (srt2 a b) [1]) && eqN ((fldR [a, b] []).map tNr) ((fldR (srt2 a b) []).map tNr)
theorem pm2_all : (rtAll.all fun a => rtAll.all fun b => pm2 a b) = true := by kernel_rfl
theorem pm3_0 : (rtAll.all fun b => rtAll.all fun c => pm3 (-3, 1) b c) = true := by kernel_rfl
end Go.Proofs.Ytkmompbfcgjgmaa.nt
namespace Go.Proofs.Ytkmompbfcgjgmaa.nt
open Go.GE
set_option linter.unusedVariables false
set_option linter.unusedSimpArgs false
set_option linter.unusedSectionVars false
set_option maxRecDepth 1000000
set_option maxHeartbeats 4000000
theorem qB_all : ((rtAll.all fun a => ckA [a] [2, 0, 1]) && ckA [] [2, 0, 1]) = true := by kernel_rfl
theorem q_0_2 : (rtAll.all fun c => bif Nat.ble (rk (-2, 1)) (rk c) then ckA [(-3, 1), (-2, 1), c] [1] else true) = true := by kernel_rfl
theorem q_2_2 : (rtAll.all fun c => bif Nat.ble (rk (-2, 1)) (rk c) then ckA [(-2, 1), (-2, 1), c] [1] else true) = true := by kernel_rfl
theorem q_1_4 : (rtAll.all fun c => bif Nat.ble (rk (-1, 1)) (rk c) then ckA [(-3, 2), (-1, 1), c] [1] else true) = true := by kernel_rfl
theorem q_4_4 : (rtAll.all fun c => bif Nat.ble (rk (-1, 1)) (rk c) then ckA [(-1, 1), (-1, 1), c] [1] else true) = true := by kernel_rfl
theorem q_5_5 : (rtAll.all fun c => bif Nat.ble (rk (-1, 2)) (rk c) then ckA [(-1, 2), (-1, 2), c] [1] else true) = true := by kernel_rfl
theorem q_3_6 : (rtAll.all fun c => bif Nat.ble (rk (0, 1)) (rk c) then ckA [(-2, 2), (0, 1), c] [1] else true) = true := by kernel_rfl
theorem q_0_7 : (rtAll.all fun c => bif Nat.ble (rk (0, 2)) (rk c) then ckA [(-3, 1), (0, 2), c] [1] else true) = true := by kernel_rfl
theorem q_2_7 : (rtAll.all fun c => bif Nat.ble (rk (0, 2)) (rk c) then ckA [(-2, 1), (0, 2), c] [1] else true) = true := by kernel_rfl
theorem q_7_7 : (rtAll.all fun c => bif Nat.ble (rk (0, 2)) (rk c) then ckA [(0, 2), (0, 2), c] [1] else true) = true := by kernel_rfl
theorem q_6_8 : (rtAll.all fun c => bif Nat.ble (rk (1, 1)) (rk c) then ckA [(0, 1), (1, 1), c] [1] else true) = true := by kernel_rfl
theorem q_1_9 : (rtAll.all fun c => bif Nat.ble (rk (1, 2)) (rk c) then ckA [(-3, 2), (1, 2), c] [1] else true) = true := by kernel_rfl
theorem q_4_9 : (rtAll.all fun c => bif Nat.ble (rk (1, 2)) (rk c) then ckA [(-1, 1), (1, 2), c] [1] else true) = true := by kernel_rfl
theorem q_9_9 : (rtAll.all fun c => bif Nat.ble (rk (1, 2)) (rk c) then ckA [(1, 2), (1, 2), c] [1] else true) = true := by kernel_rfl
theorem q_5_10 : (rtAll.all fun c => bif Nat.ble (rk (2, 1)) (rk c) then ckA [(-1, 2), (2, 1), c] [1] else true) = true := by kernel_rfl
theorem q_10_10 : (rtAll.all fun c => bif Nat.ble (rk (2, 1)) (rk c) then ckA [(2, 1), (2, 1), c] [1] else true) = true := by kernel_rfl
theorem q_3_11 : (rtAll.all fun c => bif Nat.ble (rk (2, 2)) (rk c) then ckA [(-2, 2), (2, 2), c] [1] else true) = true := by kernel_rfl
theorem q_8_11 : (rtAll.all fun c => bif Nat.ble (rk (2, 2)) (rk c) then ckA [(1, 1), (2, 2), c] [1] else true) = true := by kernel_rfl
theorem q_0_12 : (rtAll.all fun c => bif Nat.ble (rk (3, 1)) (rk c) then ckA [(-3, 1), (3, 1), c] [1] else true) = true := by kernel_rfl
theorem q_2_12 : (rtAll.all fun c => bif Nat.ble (rk (3, 1)) (rk c) then ckA [(-2, 1), (3, 1), c] [1] else true) = true := by kernel_rfl
theorem q_7_12 : (rtAll.all fun c => bif Nat.ble (rk (3, 1)) (rk c) then ckA [(0, 2), (3, 1), c] [1] else true) = true := by kernel_rfl
theorem q_12_12 : (rtAll.all fun c => bif Nat.ble (rk (3, 1)) (rk c) then ckA [(3, 1), (3, 1), c] [1] else true) = true := by kernel_rfl
theorem pm3_4 : (rtAll.all fun b => rtAll.all fun c => pm3 (-1, 1) b c) = true := by kernel_rfl
theorem pm3_9 : (rtAll.all fun b => rtAll.all fun c => pm3 (1, 2) b c) = true := by kernel_rfl
theorem q_0_13 : (rtAll.all fun c => bif Nat.ble (rk (3, 2)) (rk c) then ckA [(-3, 1), (3, 2), c] [1] else true) = true := by kernel_rfl
theorem q_5_13 : (rtAll.all fun c => bif Nat.ble (rk (3, 2)) (rk c) then ckA [(-1, 2), (3, 2), c] [1] else true) = true := by kernel_rfl
theorem q_10_13 : (rtAll.all fun c => bif Nat.ble (rk (3, 2)) (rk c) then ckA [(2, 1), (3, 2), c] [1] else true) = true := by kernel_rfl
end Go.Proofs.Ytkmompbfcgjgmaa.nt
namespace Go.Proofs.Ytkmompbfcgjgmaa.nt
open Go.GE
set_option linter.unusedVariables false
set_option linter.unusedSimpArgs false
set_option linter.unusedSectionVars false
set_option maxRecDepth 1000000
set_option maxHeartbeats 4000000
theorem qC_all : ((rtAll.all fun a => ckA [a] [1, 1, 1]) && ckA [] [1, 1, 1]) = true := by kernel_rfl
theorem q_1_2 : (rtAll.all fun c => bif Nat.ble (rk (-2, 1)) (rk c) then ckA [(-3, 2), (-2, 1), c] [1] else true) = true := by kernel_rfl
theorem q2_2 : (rtAll.all fun b => bif Nat.ble (rk (-2, 1)) (rk b) then ckA [(-2, 1), b] [1] else true) = true := by kernel_rfl
theorem q_2_4 : (rtAll.all fun c => bif Nat.ble (rk (-1, 1)) (rk c) then ckA [(-2, 1), (-1, 1), c] [1] else true) = true := by kernel_rfl
theorem q2_4 : (rtAll.all fun b => bif Nat.ble (rk (-1, 1)) (rk b) then ckA [(-1, 1), b] [1] else true) = true := by kernel_rfl
theorem q2_5 : (rtAll.all fun b => bif Nat.ble (rk (-1, 2)) (rk b) then ckA [(-1, 2), b] [1] else true) = true := by kernel_rfl
theorem q_4_6 : (rtAll.all fun c => bif Nat.ble (rk (0, 1)) (rk c) then ckA [(-1, 1), (0, 1), c] [1] else true) = true := by kernel_rfl
theorem q_1_7 : (rtAll.all fun c => bif Nat.ble (rk (0, 2)) (rk c) then ckA [(-3, 2), (0, 2), c] [1] else true) = true := by kernel_rfl
theorem q_3_7 : (rtAll.all fun c => bif Nat.ble (rk (0, 2)) (rk c) then ckA [(-2, 2), (0, 2), c] [1] else true) = true := by kernel_rfl
theorem q2_7 : (rtAll.all fun b => bif Nat.ble (rk (0, 2)) (rk b) then ckA [(0, 2), b] [1] else true) = true := by kernel_rfl
theorem q_7_8 : (rtAll.all fun c => bif Nat.ble (rk (1, 1)) (rk c) then ckA [(0, 2), (1, 1), c] [1] else true) = true := by kernel_rfl
theorem q_2_9 : (rtAll.all fun c => bif Nat.ble (rk (1, 2)) (rk c) then ckA [(-2, 1), (1, 2), c] [1] else true) = true := by kernel_rfl
theorem q_5_9 : (rtAll.all fun c => bif Nat.ble (rk (1, 2)) (rk c) then ckA [(-1, 2), (1, 2), c] [1] else true) = true := by kernel_rfl
theorem q2_9 : (rtAll.all fun b => bif Nat.ble (rk (1, 2)) (rk b) then ckA [(1, 2), b] [1] else true) = true := by kernel_rfl
theorem q_6_10 : (rtAll.all fun c => bif Nat.ble (rk (2, 1)) (rk c) then ckA [(0, 1), (2, 1), c] [1] else true) = true := by kernel_rfl
theorem q2_10 : (rtAll.all fun b => bif Nat.ble (rk (2, 1)) (rk b) then ckA [(2, 1), b] [1] else true) = true := by kernel_rfl
theorem q_4_11 : (rtAll.all fun c => bif Nat.ble (rk (2, 2)) (rk c) then ckA [(-1, 1), (2, 2), c] [1] else true) = true := by kernel_rfl
theorem q_9_11 : (rtAll.all fun c => bif Nat.ble (rk (2, 2)) (rk c) then ckA [(1, 2), (2, 2), c] [1] else true) = true := by kernel_rfl
theorem q_1_12 : (rtAll.all fun c => bif Nat.ble (rk (3, 1)) (rk c) then ckA [(-3, 2), (3, 1), c] [1] else true) = true := by kernel_rfl
theorem q_3_12 : (rtAll.all fun c => bif Nat.ble (rk (3, 1)) (rk c) then ckA [(-2, 2), (3, 1), c] [1] else true) = true := by kernel_rfl
theorem q_8_12 : (rtAll.all fun c => bif Nat.ble (rk (3, 1)) (rk c) then ckA [(1, 1), (3, 1), c] [1] else true) = true := by kernel_rfl
theorem q2_12 : (rtAll.all fun b => bif Nat.ble (rk (3, 1)) (rk b) then ckA [(3, 1), b] [1] else true) = true := by kernel_rfl
theorem pm3_5 : (rtAll.all fun b => rtAll.all fun c => pm3 (-1, 2) b c) = true := by kernel_rfl
theorem pm3_10 : (rtAll.all fun b => rtAll.all fun c => pm3 (2, 1) b c) = true := by kernel_rfl
theorem q_1_13 : (rtAll.all fun c => bif Nat.ble (rk (3, 2)) (rk c) then ckA [(-3, 2), (3, 2), c] [1] else true) = true := by kernel_rfl
theorem q_6_13 : (rtAll.all fun c => bif Nat.ble (rk (3, 2)) (rk c) then ckA [(0, 1), (3, 2), c] [1] else true) = true := by kernel_rfl
theorem q_11_13 : (rtAll.all fun c => bif Nat.ble (rk (3, 2)) (rk c) then ckA [(2, 2), (3, 2), c] [1] else true) = true := by kernel_rfl
end Go.Proofs.Ytkmompbfcgjgmaa.nt
namespace Go.Proofs.Ytkmompbfcgjgmaa.nt
open Go.GE
set_option linter.unusedVariables false
set_option linter.unusedSimpArgs false
set_option linter.unusedSectionVars false
set_option maxRecDepth 1000000
set_option maxHeartbeats 4000000
theorem q_0_0 : (rtAll.all fun c => bif Nat.ble (rk (-3, 1)) (rk c) then ckA [(-3, 1), (-3, 1), c] [1] else true) = true := by kernel_rfl
theorem q_0_1 : (rtAll.all fun c => bif Nat.ble (rk (-3, 2)) (rk c) then ckA [(-3, 1), (-3, 2), c] [1] else true) = true := by kernel_rfl
theorem q_0_3 : (rtAll.all fun c => bif Nat.ble (rk (-2, 2)) (rk c) then ckA [(-3, 1), (-2, 2), c] [1] else true) = true := by kernel_rfl
theorem q_3_3 : (rtAll.all fun c => bif Nat.ble (rk (-2, 2)) (rk c) then ckA [(-2, 2), (-2, 2), c] [1] else true) = true := by kernel_rfl
theorem q_0_5 : (rtAll.all fun c => bif Nat.ble (rk (-1, 2)) (rk c) then ckA [(-3, 1), (-1, 2), c] [1] else true) = true := by kernel_rfl
theorem q_2_5 : (rtAll.all fun c => bif Nat.ble (rk (-1, 2)) (rk c) then ckA [(-2, 1), (-1, 2), c] [1] else true) = true := by kernel_rfl
theorem q_0_6 : (rtAll.all fun c => bif Nat.ble (rk (0, 1)) (rk c) then ckA [(-3, 1), (0, 1), c] [1] else true) = true := by kernel_rfl
theorem q_5_6 : (rtAll.all fun c => bif Nat.ble (rk (0, 1)) (rk c) then ckA [(-1, 2), (0, 1), c] [1] else true) = true := by kernel_rfl
theorem q_4_7 : (rtAll.all fun c => bif Nat.ble (rk (0, 2)) (rk c) then ckA [(-1, 1), (0, 2), c] [1] else true) = true := by kernel_rfl
theorem q_0_8 : (rtAll.all fun c => bif Nat.ble (rk (1, 1)) (rk c) then ckA [(-3, 1), (1, 1), c] [1] else true) = true := by kernel_rfl
theorem q_3_8 : (rtAll.all fun c => bif Nat.ble (rk (1, 1)) (rk c) then ckA [(-2, 2), (1, 1), c] [1] else true) = true := by kernel_rfl
theorem q_8_8 : (rtAll.all fun c => bif Nat.ble (rk (1, 1)) (rk c) then ckA [(1, 1), (1, 1), c] [1] else true) = true := by kernel_rfl
theorem q_6_9 : (rtAll.all fun c => bif Nat.ble (rk (1, 2)) (rk c) then ckA [(0, 1), (1, 2), c] [1] else true) = true := by kernel_rfl
theorem q_0_10 : (rtAll.all fun c => bif Nat.ble (rk (2, 1)) (rk c) then ckA [(-3, 1), (2, 1), c] [1] else true) = true := by kernel_rfl
theorem q_2_10 : (rtAll.all fun c => bif Nat.ble (rk (2, 1)) (rk c) then ckA [(-2, 1), (2, 1), c] [1] else true) = true := by kernel_rfl
theorem q_7_10 : (rtAll.all fun c => bif Nat.ble (rk (2, 1)) (rk c) then ckA [(0, 2), (2, 1), c] [1] else true) = true := by kernel_rfl
theorem q_0_11 : (rtAll.all fun c => bif Nat.ble (rk (2, 2)) (rk c) then ckA [(-3, 1), (2, 2), c] [1] else true) = true := by kernel_rfl
theorem q_5_11 : (rtAll.all fun c => bif Nat.ble (rk (2, 2)) (rk c) then ckA [(-1, 2), (2, 2), c] [1] else true) = true := by kernel_rfl
theorem q_10_11 : (rtAll.all fun c => bif Nat.ble (rk (2, 2)) (rk c) then ckA [(2, 1), (2, 2), c] [1] else true) = true := by kernel_rfl
theorem q_4_12 : (rtAll.all fun c => bif Nat.ble (rk (3, 1)) (rk c) then ckA [(-1, 1), (3, 1), c] [1] else true) = true := by kernel_rfl
theorem q_9_12 : (rtAll.all fun c => bif Nat.ble (rk (3, 1)) (rk c) then ckA [(1, 2), (3, 1), c] [1] else true) = true := by kernel_rfl
theorem pm3_1 : (rtAll.all fun b => rtAll.all fun c => pm3 (-3, 2) b c) = true := by kernel_rfl
theorem pm3_6 : (rtAll.all fun b => rtAll.all fun c => pm3 (0, 1) b c) = true := by kernel_rfl
theorem pm3_11 : (rtAll.all fun b => rtAll.all fun c => pm3 (2, 2) b c) = true := by kernel_rfl
theorem q_2_13 : (rtAll.all fun c => bif Nat.ble (rk (3, 2)) (rk c) then ckA [(-2, 1), (3, 2), c] [1] else true) = true := by kernel_rfl
theorem q_7_13 : (rtAll.all fun c => bif Nat.ble (rk (3, 2)) (rk c) then ckA [(0, 2), (3, 2), c] [1] else true) = true := by kernel_rfl
theorem q_12_13 : (rtAll.all fun c => bif Nat.ble (rk (3, 2)) (rk c) then ckA [(3, 1), (3, 2), c] [1] else true) = true := by kernel_rfl
end Go.Proofs.Ytkmompbfcgjgmaa.nt
namespace Go.Proofs.Ytkmompbfcgjgmaa.nt
open Go.GE
set_option linter.unusedVariables false
set_option linter.unusedSimpArgs false
set_option linter.unusedSectionVars false
set_option maxRecDepth 1000000
set_option maxHeartbeats 4000000
theorem q2_0 : (rtAll.all fun b => bif Nat.ble (rk (-3, 1)) (rk b) then ckA [(-3, 1), b] [1] else true) = true := by kernel_rfl
theorem q_1_1 : (rtAll.all fun c => bif Nat.ble (rk (-3, 2)) (rk c) then ckA [(-3, 2), (-3, 2), c] [1] else true) = true := by kernel_rfl
theorem q_1_3 : (rtAll.all fun c => bif Nat.ble (rk (-2, 2)) (rk c) then ckA [(-3, 2), (-2, 2), c] [1] else true) = true := by kernel_rfl
theorem q2_3 : (rtAll.all fun b => bif Nat.ble (rk (-2, 2)) (rk b) then ckA [(-2, 2), b] [1] else true) = true := by kernel_rfl
theorem q_1_5 : (rtAll.all fun c => bif Nat.ble (rk (-1, 2)) (rk c) then ckA [(-3, 2), (-1, 2), c] [1] else true) = true := by kernel_rfl
theorem q_3_5 : (rtAll.all fun c => bif Nat.ble (rk (-1, 2)) (rk c) then ckA [(-2, 2), (-1, 2), c] [1] else true) = true := by kernel_rfl
theorem q_1_6 : (rtAll.all fun c => bif Nat.ble (rk (0, 1)) (rk c) then ckA [(-3, 2), (0, 1), c] [1] else true) = true := by kernel_rfl
theorem q_6_6 : (rtAll.all fun c => bif Nat.ble (rk (0, 1)) (rk c) then ckA [(0, 1), (0, 1), c] [1] else true) = true := by kernel_rfl
theorem q_5_7 : (rtAll.all fun c => bif Nat.ble (rk (0, 2)) (rk c) then ckA [(-1, 2), (0, 2), c] [1] else true) = true := by kernel_rfl
theorem q_1_8 : (rtAll.all fun c => bif Nat.ble (rk (1, 1)) (rk c) then ckA [(-3, 2), (1, 1), c] [1] else true) = true := by kernel_rfl
theorem q_4_8 : (rtAll.all fun c => bif Nat.ble (rk (1, 1)) (rk c) then ckA [(-1, 1), (1, 1), c] [1] else true) = true := by kernel_rfl
theorem q2_8 : (rtAll.all fun b => bif Nat.ble (rk (1, 1)) (rk b) then ckA [(1, 1), b] [1] else true) = true := by kernel_rfl
theorem q_7_9 : (rtAll.all fun c => bif Nat.ble (rk (1, 2)) (rk c) then ckA [(0, 2), (1, 2), c] [1] else true) = true := by kernel_rfl
theorem q_1_10 : (rtAll.all fun c => bif Nat.ble (rk (2, 1)) (rk c) then ckA [(-3, 2), (2, 1), c] [1] else true) = true := by kernel_rfl
theorem q_3_10 : (rtAll.all fun c => bif Nat.ble (rk (2, 1)) (rk c) then ckA [(-2, 2), (2, 1), c] [1] else true) = true := by kernel_rfl
theorem q_8_10 : (rtAll.all fun c => bif Nat.ble (rk (2, 1)) (rk c) then ckA [(1, 1), (2, 1), c] [1] else true) = true := by kernel_rfl
theorem q_1_11 : (rtAll.all fun c => bif Nat.ble (rk (2, 2)) (rk c) then ckA [(-3, 2), (2, 2), c] [1] else true) = true := by kernel_rfl
theorem q_6_11 : (rtAll.all fun c => bif Nat.ble (rk (2, 2)) (rk c) then ckA [(0, 1), (2, 2), c] [1] else true) = true := by kernel_rfl
theorem q_11_11 : (rtAll.all fun c => bif Nat.ble (rk (2, 2)) (rk c) then ckA [(2, 2), (2, 2), c] [1] else true) = true := by kernel_rfl
theorem q_5_12 : (rtAll.all fun c => bif Nat.ble (rk (3, 1)) (rk c) then ckA [(-1, 2), (3, 1), c] [1] else true) = true := by kernel_rfl
theorem q_10_12 : (rtAll.all fun c => bif Nat.ble (rk (3, 1)) (rk c) then ckA [(2, 1), (3, 1), c] [1] else true) = true := by kernel_rfl
theorem pm3_2 : (rtAll.all fun b => rtAll.all fun c => pm3 (-2, 1) b c) = true := by kernel_rfl
theorem pm3_7 : (rtAll.all fun b => rtAll.all fun c => pm3 (0, 2) b c) = true := by kernel_rfl
theorem pm3_12 : (rtAll.all fun b => rtAll.all fun c => pm3 (3, 1) b c) = true := by kernel_rfl
theorem q_3_13 : (rtAll.all fun c => bif Nat.ble (rk (3, 2)) (rk c) then ckA [(-2, 2), (3, 2), c] [1] else true) = true := by kernel_rfl
theorem q_8_13 : (rtAll.all fun c => bif Nat.ble (rk (3, 2)) (rk c) then ckA [(1, 1), (3, 2), c] [1] else true) = true := by kernel_rfl
theorem q_13_13 : (rtAll.all fun c => bif Nat.ble (rk (3, 2)) (rk c) then ckA [(3, 2), (3, 2), c] [1] else true) = true := by kernel_rfl
end Go.Proofs.Ytkmompbfcgjgmaa.nt
namespace Go.Proofs.Ytkmompbfcgjgmaa.nt
open Go.GE
set_option linter.unusedVariables false
set_option linter.unusedSimpArgs false
set_option linter.unusedSectionVars false
set_option maxRecDepth 1000000
set_option maxHeartbeats 4000000
theorem q1_all : (rtAll.all fun a => ckA [a] [1]) = true := by kernel_rfl
theorem q2_1 : (rtAll.all fun b => bif Nat.ble (rk (-3, 2)) (rk b) then ckA [(-3, 2), b] [1] else true) = true := by kernel_rfl
theorem q_2_3 : (rtAll.all fun c => bif Nat.ble (rk (-2, 2)) (rk c) then ckA [(-2, 1), (-2, 2), c] [1] else true) = true := by kernel_rfl
theorem q_0_4 : (rtAll.all fun c => bif Nat.ble (rk (-1, 1)) (rk c) then ckA [(-3, 1), (-1, 1), c] [1] else true) = true := by kernel_rfl
theorem q_3_4 : (rtAll.all fun c => bif Nat.ble (rk (-1, 1)) (rk c) then ckA [(-2, 2), (-1, 1), c] [1] else true) = true := by kernel_rfl
theorem q_4_5 : (rtAll.all fun c => bif Nat.ble (rk (-1, 2)) (rk c) then ckA [(-1, 1), (-1, 2), c] [1] else true) = true := by kernel_rfl
theorem q_2_6 : (rtAll.all fun c => bif Nat.ble (rk (0, 1)) (rk c) then ckA [(-2, 1), (0, 1), c] [1] else true) = true := by kernel_rfl
theorem q2_6 : (rtAll.all fun b => bif Nat.ble (rk (0, 1)) (rk b) then ckA [(0, 1), b] [1] else true) = true := by kernel_rfl
theorem q_6_7 : (rtAll.all fun c => bif Nat.ble (rk (0, 2)) (rk c) then ckA [(0, 1), (0, 2), c] [1] else true) = true := by kernel_rfl
theorem q_2_8 : (rtAll.all fun c => bif Nat.ble (rk (1, 1)) (rk c) then ckA [(-2, 1), (1, 1), c] [1] else true) = true := by kernel_rfl
theorem q_5_8 : (rtAll.all fun c => bif Nat.ble (rk (1, 1)) (rk c) then ckA [(-1, 2), (1, 1), c] [1] else true) = true := by kernel_rfl
theorem q_0_9 : (rtAll.all fun c => bif Nat.ble (rk (1, 2)) (rk c) then ckA [(-3, 1), (1, 2), c] [1] else true) = true := by kernel_rfl
theorem q_3_9 : (rtAll.all fun c => bif Nat.ble (rk (1, 2)) (rk c) then ckA [(-2, 2), (1, 2), c] [1] else true) = true := by kernel_rfl
theorem q_8_9 : (rtAll.all fun c => bif Nat.ble (rk (1, 2)) (rk c) then ckA [(1, 1), (1, 2), c] [1] else true) = true := by kernel_rfl
theorem q_4_10 : (rtAll.all fun c => bif Nat.ble (rk (2, 1)) (rk c) then ckA [(-1, 1), (2, 1), c] [1] else true) = true := by kernel_rfl
theorem q_9_10 : (rtAll.all fun c => bif Nat.ble (rk (2, 1)) (rk c) then ckA [(1, 2), (2, 1), c] [1] else true) = true := by kernel_rfl
theorem q_2_11 : (rtAll.all fun c => bif Nat.ble (rk (2, 2)) (rk c) then ckA [(-2, 1), (2, 2), c] [1] else true) = true := by kernel_rfl
theorem q_7_11 : (rtAll.all fun c => bif Nat.ble (rk (2, 2)) (rk c) then ckA [(0, 2), (2, 2), c] [1] else true) = true := by kernel_rfl
theorem q2_11 : (rtAll.all fun b => bif Nat.ble (rk (2, 2)) (rk b) then ckA [(2, 2), b] [1] else true) = true := by kernel_rfl
theorem q_6_12 : (rtAll.all fun c => bif Nat.ble (rk (3, 1)) (rk c) then ckA [(0, 1), (3, 1), c] [1] else true) = true := by kernel_rfl
theorem q_11_12 : (rtAll.all fun c => bif Nat.ble (rk (3, 1)) (rk c) then ckA [(2, 2), (3, 1), c] [1] else true) = true := by kernel_rfl
theorem pm3_3 : (rtAll.all fun b => rtAll.all fun c => pm3 (-2, 2) b c) = true := by kernel_rfl
theorem pm3_8 : (rtAll.all fun b => rtAll.all fun c => pm3 (1, 1) b c) = true := by kernel_rfl
theorem pm3_13 : (rtAll.all fun b => rtAll.all fun c => pm3 (3, 2) b c) = true := by kernel_rfl
theorem q_4_13 : (rtAll.all fun c => bif Nat.ble (rk (3, 2)) (rk c) then ckA [(-1, 1), (3, 2), c] [1] else true) = true := by kernel_rfl
theorem q_9_13 : (rtAll.all fun c => bif Nat.ble (rk (3, 2)) (rk c) then ckA [(1, 2), (3, 2), c] [1] else true) = true := by kernel_rfl
theorem q2_13 : (rtAll.all fun b => bif Nat.ble (rk (3, 2)) (rk b) then ckA [(3, 2), b] [1] else true) = true := by kernel_rfl
end Go.Proofs.Ytkmompbfcgjgmaa.nt
namespace Go.Proofs.Ytkmompbfcgjgmaa.nt
open Go.GE
set_option linter.unusedVariables false
set_option linter.unusedSimpArgs false
set_option linter.unusedSectionVars false
set_option maxRecDepth 1000000
set_option maxHeartbeats 4000000
theorem all_mem {α : Type} {l : List α} {p : α → Bool} (h : l.all p = true) {x : α} (hx : x ∈ l) : p x = true := List.all_eq_true.1 h x hx
def qOf (a b : Int × Int) : Bool := rtAll.all fun c => bif Nat.ble (rk b) (rk c) then ckA [a, b, c] [1] else true
def q2Of (a : Int × Int) : Bool := rtAll.all fun b => bif Nat.ble (rk a) (rk b) then ckA [a, b] [1] else true
def pmOf (a : Int × Int) : Bool := rtAll.all fun b => rtAll.all fun c => pm3 a b c
theorem q_all : ∀ a, a ∈ rtAll → ∀ b, b ∈ rtAll → Nat.ble (rk a) (rk b) = true → qOf a b = true := by
  intro a ha b hb h
  simp only [rtAll, List.mem_cons, List.not_mem_nil, or_false] at ha hb
  rcases ha with rfl | rfl | rfl | rfl | rfl | rfl | rfl | rfl | rfl | rfl | rfl | rfl | rfl | rfl
  · rcases hb with rfl | rfl | rfl | rfl | rfl | rfl | rfl | rfl | rfl | rfl | rfl | rfl | rfl | rfl
    · exact q_0_0
    · exact q_0_1
    · exact q_0_2
    · exact q_0_3
    · exact q_0_4
    · exact q_0_5
    · exact q_0_6
    · exact q_0_7
    · exact q_0_8
    · exact q_0_9
    · exact q_0_10
    · exact q_0_11
    · exact q_0_12
    · exact q_0_13
  · rcases hb with rfl | rfl | rfl | rfl | rfl | rfl | rfl | rfl | rfl | rfl | rfl | rfl | rfl | rfl
    · exact absurd h (by decide)
    · exact q_1_1
    · exact q_1_2
    · exact q_1_3
    · exact q_1_4
    · exact q_1_5
    · exact q_1_6
    · exact q_1_7
    · exact q_1_8
    · exact q_1_9
    · exact q_1_10
    · exact q_1_11
    · exact q_1_12
    · exact q_1_13
  · rcases hb with rfl | rfl | rfl | rfl | rfl | rfl | rfl | rfl | rfl | rfl | rfl | rfl | rfl | rfl
    · exact absurd h (by decide)
    · exact absurd h (by decide)
    · exact q_2_2
    · exact q_2_3
    · exact q_2_4
    · exact q_2_5
    · exact q_2_6
    · exact q_2_7
    · exact q_2_8
    · exact q_2_9
    · exact q_2_10
    · exact q_2_11
    · exact q_2_12
    · exact q_2_13
  · rcases hb with rfl | rfl | rfl | rfl | rfl | rfl | rfl | rfl | rfl | rfl | rfl | rfl | rfl | rfl
    · exact absurd h (by decide)
    · exact absurd h (by decide)
    · exact absurd h (by decide)
    · exact q_3_3
    · exact q_3_4
    · exact q_3_5
    · exact q_3_6
    · exact q_3_7
    · exact q_3_8
    · exact q_3_9
    · exact q_3_10
    · exact q_3_11
    · exact q_3_12
    · exact q_3_13
  · rcases hb with rfl | rfl | rfl | rfl | rfl | rfl | rfl | rfl | rfl | rfl | rfl | rfl | rfl | rfl
    · exact absurd h (by decide)
    · exact absurd h (by decide)
    · exact absurd h (by decide)
    · exact absurd h (by decide)
    · exact q_4_4
    · exact q_4_5
    · exact q_4_6
    · exact q_4_7
    · exact q_4_8
    · exact q_4_9
    · exact q_4_10
    · exact q_4_11
    · exact q_4_12
    · exact q_4_13
  · rcases hb with rfl | rfl | rfl | rfl | rfl | rfl | rfl | rfl | rfl | rfl | rfl | rfl | rfl | rfl
    · exact absurd h (by decide)
    · exact absurd h (by decide)
    · exact absurd h (by decide)
    · exact absurd h (by decide)
    · exact absurd h (by decide)
    · exact q_5_5
    · exact q_5_6
    · exact q_5_7
    · exact q_5_8
    · exact q_5_9
    · exact q_5_10
    · exact q_5_11
    · exact q_5_12
    · exact q_5_13
  · rcases hb with rfl | rfl | rfl | rfl | rfl | rfl | rfl | rfl | rfl | rfl | rfl | rfl | rfl | rfl
    · exact absurd h (by decide)
    · exact absurd h (by decide)
    · exact absurd h (by decide)
    · exact absurd h (by decide)
    · exact absurd h (by decide)
    · exact absurd h (by decide)
    · exact q_6_6
    · exact q_6_7
    · exact q_6_8
    · exact q_6_9
    · exact q_6_10
    · exact q_6_11
    · exact q_6_12
    · exact q_6_13
  · rcases hb with rfl | rfl | rfl | rfl | rfl | rfl | rfl | rfl | rfl | rfl | rfl | rfl | rfl | rfl
    · exact absurd h (by decide)
    · exact absurd h (by decide)
    · exact absurd h (by decide)
    · exact absurd h (by decide)
    · exact absurd h (by decide)
    · exact absurd h (by decide)
    · exact absurd h (by decide)
    · exact q_7_7
    · exact q_7_8
    · exact q_7_9
    · exact q_7_10
    · exact q_7_11
    · exact q_7_12
    · exact q_7_13
  · rcases hb with rfl | rfl | rfl | rfl | rfl | rfl | rfl | rfl | rfl | rfl | rfl | rfl | rfl | rfl
    · exact absurd h (by decide)
    · exact absurd h (by decide)
    · exact absurd h (by decide)
    · exact absurd h (by decide)
    · exact absurd h (by decide)
    · exact absurd h (by decide)
    · exact absurd h (by decide)
    · exact absurd h (by decide)
    · exact q_8_8
    · exact q_8_9
    · exact q_8_10
    · exact q_8_11
    · exact q_8_12
    · exact q_8_13
  · rcases hb with rfl | rfl | rfl | rfl | rfl | rfl | rfl | rfl | rfl | rfl | rfl | rfl | rfl | rfl
    · exact absurd h (by decide)
    · exact absurd h (by decide)
    · exact absurd h (by decide)
    · exact absurd h (by decide)
    · exact absurd h (by decide)
    · exact absurd h (by decide)
    · exact absurd h (by decide)
    · exact absurd h (by decide)
    · exact absurd h (by decide)
    · exact q_9_9
    · exact q_9_10
    · exact q_9_11
    · exact q_9_12
    · exact q_9_13
  · rcases hb with rfl | rfl | rfl | rfl | rfl | rfl | rfl | rfl | rfl | rfl | rfl | rfl | rfl | rfl
    · exact absurd h (by decide)
    · exact absurd h (by decide)
    · exact absurd h (by decide)
    · exact absurd h (by decide)
    · exact absurd h (by decide)
    · exact absurd h (by decide)
    · exact absurd h (by decide)
    · exact absurd h (by decide)
    · exact absurd h (by decide)
    · exact absurd h (by decide)
    · exact q_10_10
    · exact q_10_11
    · exact q_10_12
    · exact q_10_13
  · rcases hb with rfl | rfl | rfl | rfl | rfl | rfl | rfl | rfl | rfl | rfl | rfl | rfl | rfl | rfl
    · exact absurd h (by decide)
    · exact absurd h (by decide)
    · exact absurd h (by decide)
    · exact absurd h (by decide)
    · exact absurd h (by decide)
    · exact absurd h (by decide)
    · exact absurd h (by decide)
    · exact absurd h (by decide)
    · exact absurd h (by decide)
    · exact absurd h (by decide)
    · exact absurd h (by decide)
    · exact q_11_11
    · exact q_11_12
    · exact q_11_13
  · rcases hb with rfl | rfl | rfl | rfl | rfl | rfl | rfl | rfl | rfl | rfl | rfl | rfl | rfl | rfl
    · exact absurd h (by decide)
    · exact absurd h (by decide)
    · exact absurd h (by decide)
    · exact absurd h (by decide)
    · exact absurd h (by decide)
    · exact absurd h (by decide)
    · exact absurd h (by decide)
    · exact absurd h (by decide)
    · exact absurd h (by decide)
    · exact absurd h (by decide)
    · exact absurd h (by decide)
    · exact absurd h (by decide)
    · exact q_12_12
    · exact q_12_13
  · rcases hb with rfl | rfl | rfl | rfl | rfl | rfl | rfl | rfl | rfl | rfl | rfl | rfl | rfl | rfl
    · exact absurd h (by decide)
    · exact absurd h (by decide)
    · exact absurd h (by decide)
    · exact absurd h (by decide)
    · exact absurd h (by decide)
    · exact absurd h (by decide)
    · exact absurd h (by decide)
    · exact absurd h (by decide)
    · exact absurd h (by decide)
    · exact absurd h (by decide)
    · exact absurd h (by decide)
    · exact absurd h (by decide)
    · exact absurd h (by decide)
    · exact q_13_13
theorem q2_all : ∀ a, a ∈ rtAll → q2Of a = true := by
  intro a ha
  simp only [rtAll, List.mem_cons, List.not_mem_nil, or_false] at ha
  rcases ha with rfl | rfl | rfl | rfl | rfl | rfl | rfl | rfl | rfl | rfl | rfl | rfl | rfl | rfl
  · exact q2_0
  · exact q2_1
  · exact q2_2
  · exact q2_3
  · exact q2_4
  · exact q2_5
  · exact q2_6
  · exact q2_7
  · exact q2_8
  · exact q2_9
  · exact q2_10
  · exact q2_11
  · exact q2_12
  · exact q2_13
theorem pm_all : ∀ a, a ∈ rtAll → pmOf a = true := by
  intro a ha
  simp only [rtAll, List.mem_cons, List.not_mem_nil, or_false] at ha
  rcases ha with rfl | rfl | rfl | rfl | rfl | rfl | rfl | rfl | rfl | rfl | rfl | rfl | rfl | rfl
  · exact pm3_0
  · exact pm3_1
  · exact pm3_2
  · exact pm3_3
  · exact pm3_4
  · exact pm3_5
  · exact pm3_6
  · exact pm3_7
  · exact pm3_8
  · exact pm3_9
  · exact pm3_10
  · exact pm3_11
  · exact pm3_12
  · exact pm3_13
theorem ck3 {a b c : Int × Int} (ha : a ∈ rtAll) (hb : b ∈ rtAll) (hc : c ∈ rtAll) (h1 : Nat.ble (rk a) (rk b) = true) (h2 : Nat.ble (rk b) (rk c) = true) : ckA [a, b, c] [1] = true := by
  have := all_mem (q_all a ha b hb h1) hc
  rw [h2, cond_true] at this
  exact this
theorem ck2 {a b : Int × Int} (ha : a ∈ rtAll) (hb : b ∈ rtAll) (h1 : Nat.ble (rk a) (rk b) = true) : ckA [a, b] [1] = true := by
  have := all_mem (q2_all a ha) hb
  rw [h1, cond_true] at this
  exact this
theorem ble_tot {a b : Nat} (h : Nat.ble a b = false) : Nat.ble b a = true := by
  rw [Nat.ble_eq]
  have : ¬ a ≤ b := fun hh => by rw [Nat.ble_eq_true_of_le hh] at h; cases h
  omega
theorem ck_srt3 {a b c : Int × Int} (ha : a ∈ rtAll) (hb : b ∈ rtAll) (hc : c ∈ rtAll) : ckA (srt3 a b c) [1] = true := by
  unfold srt3
  cases h1 : Nat.ble (rk a) (rk b)
  · have h1' := ble_tot h1
    cases h2 : Nat.ble (rk a) (rk c)
    · have h2' := ble_tot h2
      cases h3 : Nat.ble (rk b) (rk c)
      · simp only [cond_false]; exact ck3 hc hb ha (ble_tot h3) h1'
      · simp only [cond_false, cond_true]; exact ck3 hb hc ha h3 h2'
    · simp only [cond_false, cond_true]; exact ck3 hb ha hc h1' h2
  · cases h2 : Nat.ble (rk b) (rk c)
    · have h2' := ble_tot h2
      cases h3 : Nat.ble (rk a) (rk c)
      · simp only [cond_false, cond_true]; exact ck3 hc ha hb (ble_tot h3) h1
      · simp only [cond_false, cond_true]; exact ck3 ha hc hb h3 h2'
    · simp only [cond_true]; exact ck3 ha hb hc h1 h2
theorem ck_srt2 {a b : Int × Int} (ha : a ∈ rtAll) (hb : b ∈ rtAll) : ckA (srt2 a b) [1] = true := by
  unfold srt2
  cases h1 : Nat.ble (rk a) (rk b)
  · simp only [cond_false]; exact ck2 hb ha (ble_tot h1)
  · simp only [cond_true]; exact ck2 ha hb h1
section
open Go.ChangeShapes Go.WideShapes Go.RowKit
variable {H : Type} {enc : TypeId × Value → H} {W : World} {base b0 : Nat} {v : Value} {d : DataW H} {p : List MemPlace}
theorem i8_of {z : Int} (h : (Lit.int .i8 z).wf = true) : I8 z := by have := i8_wf h; unfold I8; omega
theorem open_shape (hv : Value.okWide Try.prog W .any b0 54 v) (hd : DataW.Trod enc Try.prog W base (fun _ => true) true 54 v d p) :
    ∃ (r0 s0 r1 s1 r2 s2 : Int) (n : Nat) (o : Bool) (g : Int), v = shV r0 s0 r1 s1 r2 s2 n o g ∧ (I8 r0 ∧ I8 s0 ∧ I8 r1 ∧ I8 s1 ∧ I8 r2 ∧ I8 s2 ∧ I8 g) ∧ n < 256 := by
  simp only [Value.okWide, Try.underlying54] at hv
  obtain ⟨cs, rfl, _, _⟩ := hv
  obtain ⟨fuel, hf⟩ := hd
  obtain ⟨xs, m, _, _, hl, hlen, hx⟩ := DataW.trod_struct Try.underlying54 hf
  have hc : Try.prog.cellsOf 54 = 9 := by kernel_rfl
  rw [hc] at hl
  have hs : xs.length = 4 := hlen
  have h0 : DataW.trod enc Try.prog W base (fun _ => true) true m 52 (((Value.agg cs).cells.toList.drop 0).take (Try.prog.cellsOf 52)) = xs[0]? := hx 0 _ rfl
  have h1 : DataW.trod enc Try.prog W base (fun _ => true) true m 5 (((Value.agg cs).cells.toList.drop 6).take (Try.prog.cellsOf 5)) = xs[1]? := hx 1 _ rfl
  have h2 : DataW.trod enc Try.prog W base (fun _ => true) true m 4 (((Value.agg cs).cells.toList.drop 7).take (Try.prog.cellsOf 4)) = xs[2]? := hx 2 _ rfl
  have h3 : DataW.trod enc Try.prog W base (fun _ => true) true m 50 (((Value.agg cs).cells.toList.drop 8).take (Try.prog.cellsOf 50)) = xs[3]? := hx 3 _ rfl
  rw [List.getElem?_eq_getElem (by omega)] at h0 h1 h2 h3
  have c0 : Try.prog.cellsOf 52 = 6 := by kernel_rfl
  have c1 : Try.prog.cellsOf 5 = 1 := by kernel_rfl
  have c2 : Try.prog.cellsOf 4 = 1 := by kernel_rfl
  have c3 : Try.prog.cellsOf 50 = 1 := by kernel_rfl
  obtain ⟨l, hcs⟩ : ∃ l : List Value, (Value.agg cs).cells.toList = l := ⟨_, rfl⟩
  have hcl : cs.toList = l := hcs
  have hl' : l.length = 9 := by rw [← hcl]; exact hl
  match l, hl', hcl with
  | [x0, x1, x2, x3, x4, x5, x6, x7, x8], _, hcl =>
    have hcs : cs = #[x0, x1, x2, x3, x4, x5, x6, x7, x8] := by cases cs; exact congrArg Array.mk hcl
    subst hcs
    rw [c0] at h0
    rw [c1] at h1
    rw [c2] at h2
    rw [c3] at h3
    obtain ⟨zs, e, hw⟩ := open_flat 5 52 [.i8, .i8, .i8, .i8, .i8, .i8] m _ _ (by kernel_rfl) h0
    obtain ⟨z1, e1, _, w1⟩ := DataW.trod_int Try.underlying5 h1
    obtain ⟨b, e2, _⟩ := DataW.trod_bool Try.underlying4 h2
    obtain ⟨z3, e3, _, w3⟩ := DataW.trod_int Try.underlying50 h3
    obtain ⟨n, rfl, hn⟩ := nat_of (b := 255) (u8_wf w1)
    have h' : wfs (List.replicate 6 .i8) zs := hw
    match zs, hw.1, h', e with
    | [a0, a1, a2, a3, a4, a5], _, h', e =>
      have e : [x0, x1, x2, x3, x4, x5] = [bv a0, bv a1, bv a2, bv a3, bv a4, bv a5] := e
      have g1 : [x6] = [uv n] := e1
      have g2 : [x7] = [.bool b] := e2
      have g3 : [x8] = [bv z3] := e3
      clear e1 e2 e3 h0 h1 h2 h3
      simp only [List.cons.injEq, and_true] at e g1 g2 g3
      obtain ⟨rfl, rfl, rfl, rfl, rfl, rfl⟩ := e
      subst g1 g2 g3
      exact ⟨a0, a1, a2, a3, a4, a5, n, b, z3, rfl, ⟨i8_of (wfs_get h' (by simp)), i8_of (wfs_get h' (by simp)), i8_of (wfs_get h' (by simp)), i8_of (wfs_get h' (by simp)), i8_of (wfs_get h' (by simp)), i8_of (wfs_get h' (by simp)), i8_of w3⟩, by omega⟩
theorem VR_shape {m : Mp} {r0 s0 r1 s1 r2 s2 : Int} {n : Nat} {o : Bool} {g : Int} : VR m (shV r0 s0 r1 s1 r2 s2 n o g) (shV r0 s0 r1 s1 r2 s2 n o g) :=
  .agg (.cons (.int _ _) (.cons (.int _ _) (.cons (.int _ _) (.cons (.int _ _) (.cons (.int _ _) (.cons (.int _ _) (.cons (.int _ _) (.cons (.bool _) (.cons (.int _ _) .nil)))))))))
end
end Go.Proofs.Ytkmompbfcgjgmaa.nt
