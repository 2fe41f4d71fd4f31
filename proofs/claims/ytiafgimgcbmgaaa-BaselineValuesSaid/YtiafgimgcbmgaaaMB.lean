/-
  Contracts of functions of the program at the limit evaluator. No condition.
-/
import Derived.Test.YtiafgimgcbmgaaaMA
import Derived.Test.YtiafgimgcbmgaaaN2
import Derived.Test.YtiafgimgcbmgaaaE39
import Derived.Test.YtiafgimgcbmgaaaE28
namespace Go.Proofs.Ytiafgimgcbmgaaa.bl
open Go.GE
set_option linter.unusedVariables false
set_option linter.unusedSimpArgs false
set_option maxRecDepth 100000
set_option maxHeartbeats 4000000
attribute [local simp] runOps_nil runOps_cons runOpsF_nil runOpsF_cons fstS_some fstF_some opStep_eq want_none oStep_true oStep_false fin_pure fin_read fin_alloc fin_write storeB wrN cellV addWr o_move o_assign o_pick o_alloc o_box o_load o_store o_nilCheck o_bin o_un o_extract o_callV o_callB o_callI callV_f callV_y callV_fc o_makeFunc partsA Instr.fill builtin_len builtin_max2 bin_add bin_sub bin_mul bin_quo bin_rem bin_lss bin_leq bin_gtr bin_geq bin_eql bin_neq un_neg un_not bin_shr bin_shl wrap_u64_id opd opds optAll putO nbeq nblt constOk isC ops sub cl cr co bodyOf thenS_normal thenS_ret thenS_exit thenS_goto afterN_normal afterN_ret afterN_exit afterN_goto condS_true condS_false blockS_normal blockS_ret blockS_exit blockS_goto headS normS normK_eq fixS_nil fixS_cons fix1 fixV emptyB keepO_nil keepO_cons roundC_normal roundC_exit roundC_ret roundC_goto sweep_eq sweepD rnm pickR pickW rootsB ptrT renT ptrFn renFn ptrB_flat ptrB_non renB_flat renB_non plainS_some drawS_some fpsOk disj unord range' dropTo enumT undef wrap_i64_id Value.cells mkCells ptrTo scal cellsAt rdN endS_ret resultsA Option.bind_some tupV finish reachN dep ptrL_eq ptrL renL_eq renL ptrV_bool ptrV_int ptrV_string ptrV_nilFunc ptrV_nilIface ptrV_nilPtr ptrV_ptr ptrV_nilSl ptrV_sl ptrV_iface ptrV_agg ptrV_tuple ptrV_func renV_bool renV_int renV_string renV_nilFunc renV_nilIface renV_nilPtr renV_ptr renV_nilSl renV_sl renV_iface renV_agg renV_tuple renV_func gotoS_goto gotoS_normal gotoS_exit gotoS_ret skip_seq sliceE bnd bndHi intOf optOpd keepT_nil keepT_cons keepC_t keepC_f lk_nil lk_cons lkC_t lkC_f has_nil has_cons hasC_t hasC_f rep_nil rep_cons repC_t repC_f put_eq putC_t putC_f mem_nil mem_cons memC_t memC_f idx_nil idx_cons idxC_t idxC_f reach_nil reach_cons reachC_t reachC_f
attribute [local simp] n20_1s n20_3s n20_5s n20_6s n20_4s n20_2s n20_0s Try.f20 n21_1s n21_3s n21_6s n21_9s n21_10s n21_8s n21_11s n21_7s n21_5s n21_14s n21_17s n21_18s n21_16s n21_19s n21_15s n21_13s n21_22s n21_27s n21_29s n21_30s n21_28s n21_26s n21_35s n21_38s n21_39s n21_37s n21_40s n21_36s n21_34s n21_42s n21_45s n21_46s n21_44s n21_47s n21_43s n21_41s n21_33s n21_32s n21_48s n21_31s n21_25s n21_24s n21_24g n21_23s n21_21s n21_51s n21_54s n21_55s n21_53s n21_56s n21_52s n21_50s n21_58s n21_59s n21_57s n21_49s n21_20s n21_12s n21_4s n21_2s n21_0s Try.f21
def lastI (st : Nat → Int) (i : Nat) : Int := if i = 0 then -1 else st (i - 1)
section
variable (r f : Int) (b1 off n c b2 off2 m c2 : Nat) {cs cs2 : List Value} {own own2 : Bool} {l : Nat → Ab} {st : Nat → Int} {h : List Blk}
theorem k53a (hb : h[b1]? = some (.cells cs 3 true own)) (hb2 : h[b2]? = some (.cells cs2 1 true own2)) (hne : b1 ≠ b2) (hc : AbC cs off n l) (hc2 : IvC cs2 off2 m st) (he : expE r f n l m st = 0) :
    callH LL 53 [shV r f b1 off n c, stV b2 off2 m c2] h = some ⟨.tuple #[ptV r f b1 off n c b2 off2 m c2, iv 0], h, [b1, b2], []⟩ := by
  have e := c53a r f off n c off2 m c2 cs cs2 own own2 l st hc hc2 he
  have := callN_2 (E := LL) (v' := .tuple #[ptV r f b1 off n c b2 off2 m c2, iv 0]) rfl hb hb2 hne noIdB_flat noIdB_flat (ss_ren r f b1 off n c b2 off2 m c2 hne) e (by simp) (by simp [renV, dep, optAll, nblt])
  simpa using this
theorem k53b (hb : h[b1]? = some (.cells cs 3 true own)) (hb2 : h[b2]? = some (.cells cs2 1 true own2)) (hne : b1 ≠ b2) (hc : AbC cs off n l) (hc2 : IvC cs2 off2 m st) (he : expE r f n l m st ≠ 0) :
    callH LL 53 [shV r f b1 off n c, stV b2 off2 m c2] h = some ⟨.tuple #[zV h.length (h.length + 1), iv (expE r f n l m st)], h ++ [E3, E1], [b1, b2], []⟩ :=
  callN_2 rfl hb hb2 hne noIdB_flat noIdB_flat (ss_ren r f b1 off n c b2 off2 m c2 hne) (c53b r f off n c off2 m c2 cs cs2 own own2 l st hc hc2 he) (by intro b hb; simp at hb; rcases hb with rfl | rfl <;> exact noIdB_flat) (by simp [renV, dep, optAll, nblt])
theorem k20 (hb : h[b1]? = some (.cells cs 3 true own)) (hb2 : h[b2]? = some (.cells cs2 1 true own2)) (hne : b1 ≠ b2) (hc : AbC cs off n l) (hc2 : IvC cs2 off2 m st) :
    callH LL 20 [shV r f b1 off n c, stV b2 off2 m c2] h = some ⟨iv (expE r f n l m st), h, [b1, b2], []⟩ := by
  refine callH_2 rfl hb hb2 hne noIdB_flat noIdB_flat (ss_ren r f b1 off n c b2 off2 m c2 hne) (go (by decide) ?_) fun _ => rfl
  rw [run20 _ _ _ (by simp)]
  by_cases he : expE r f n l m st = 0
  · have a := fun bx => k53a r f 0 off n c 1 off2 m c2 (h := .cells cs 3 true own :: .cells cs2 1 true own2 :: bx) rfl rfl (by decide) hc hc2 he
    simp (maxSteps := 1000000) (disch := first | omega | decide | assumption | simp [scal]) [loadA_eq ia_24, za_115, sz_115, loadA_eq ia_115, a, he]
  · have a := fun bx => k53b r f 0 off n c 1 off2 m c2 (h := .cells cs 3 true own :: .cells cs2 1 true own2 :: bx) rfl rfl (by decide) hc hc2 he
    simp (maxSteps := 1000000) (disch := first | omega | decide | assumption | simp [scal]) [loadA_eq ia_24, za_115, sz_115, loadA_eq ia_115, a]
end
section
variable (r f : Int) (off n c off2 m c2 : Nat) (cs cs2 : List Value) (own own2 : Bool) (l : Nat → Ab) (st : Nat → Int)
theorem l21 (hc2 : IvC cs2 off2 m st) (hm : m ≤ 40) : ∀ k (i : Nat), i + k = m →
    lpB Try.prog LL ⟨21, 44, 2, none⟩ n21_24 n21_25 ⟨[(1, stV 1 off2 m c2), (2, .pointer (some ⟨2, 0, none⟩)), (6, iv i)], [.cells cs 3 true own, .cells cs2 1 true own2, shB r f 0 off n c], []⟩ =
      if stpL st k i (lastI st i) = 0 then some (.exit 0, ⟨[(1, stV 1 off2 m c2), (2, .pointer (some ⟨2, 0, none⟩))], [.cells cs 3 true own, .cells cs2 1 true own2, shB r f 0 off n c], []⟩)
      else some (.ret, ⟨[(4, iv (stpL st k i (lastI st i)))], [.cells cs 3 true own, .cells cs2 1 true own2], []⟩) := by
  intro k
  induction k with
  | zero =>
    intro i hi
    obtain rfl : i = m := by omega
    rw [lpB_eq]
    simp (maxSteps := 1000000) (disch := first | omega | decide | assumption | simp [scal]) [loadA_eq ia_29, lenA_sl lk_25, o_indexAddrS es_25, loadA_eq ia_3, want_some q21_42g2, stpL]
  | succ k ih =>
    intro i hi
    have e1 : i < m := by omega
    have this := ih (i + 1) (by omega)
    have el : lastI st (i + 1) = st i := by simp [lastI]
    rw [el] at this
    have e2 := hc2 i e1
    rw [lpB_eq]
    simp only [cast1] at this
    cases h1 : (decide (0 ≤ st i) && decide (st i ≤ 10000))
    · simp (maxSteps := 1000000) (disch := first | omega | decide | assumption | simp [scal]) [loadA_eq ia_29, lenA_sl lk_25, o_indexAddrS es_25, loadA_eq ia_3, want_some q21_42g2, stpL, k54, e1, e2, h1]
    have h1' := h1
    simp only [Bool.and_eq_true, decide_eq_true_eq] at h1'
    by_cases h0 : i = 0
    · have h4 : ¬ st i ≤ -1 := by omega
      have e7 : ¬ 0 < i := by omega
      have e8 : lastI st i = -1 := by simp [lastI, h0]
      simp (maxSteps := 1000000) (disch := first | omega | decide | assumption | simp [scal]) [loadA_eq ia_29, lenA_sl lk_25, o_indexAddrS es_25, loadA_eq ia_3, want_some q21_42g2, stpL, k54, e1, e2, e7, e8, h1, h4, this]
    · obtain ⟨j, hj⟩ : ∃ j, i = j + 1 := ⟨i - 1, by omega⟩
      have p2 := hc2 j (by omega)
      have e7 : 0 < i := by omega
      have e8 : lastI st i = st j := by subst hj; simp [lastI]
      rw [e8]
      have e9 : (i : Int) - 1 = j := by omega
      have e10 : j < m := by omega
      by_cases h4 : st i ≤ st j
      · simp (maxSteps := 1000000) (disch := first | omega | decide | assumption | simp [scal]) [loadA_eq ia_29, lenA_sl lk_25, o_indexAddrS es_25, loadA_eq ia_3, want_some q21_42g2, stpL, k54, e1, e2, e7, e9, e10, h1, h4, p2]
      · simp (maxSteps := 1000000) (disch := first | omega | decide | assumption | simp [scal]) [loadA_eq ia_29, lenA_sl lk_25, o_indexAddrS es_25, loadA_eq ia_3, want_some q21_42g2, stpL, k54, e1, e2, e7, e9, e10, h1, h4, p2, this]
theorem c21 (hc : AbC cs off n l) (hc2 : IvC cs2 off2 m st) : LL.run 21 [shV r f 0 off n c, stV 1 off2 m c2] [.cells cs 3 true own, .cells cs2 1 true own2] = some ⟨iv (expE r f n l m st), [], []⟩ := by
  refine go (by decide) ?_
  rw [run21 _ _ _ (by simp)]
  have a1 := fun bx => k23 r f 0 off n c (h := .cells cs 3 true own :: bx) l rfl hc
  unfold expE
  by_cases h1 : chkS r f n l = 0
  · have hp : ptdE r f n l m st = stpS m st := by unfold ptdE; rw [if_neg (by simp [h1])]
    by_cases h4 : 40 < m
    · have h4' : (40 : Int) < m := by omega
      have hs : ptdE r f n l m st = 3 := by rw [hp]; unfold stpS; rw [if_pos h4]
      simp (maxSteps := 1000000) (disch := first | omega | decide | assumption | simp [scal]) [loadA_eq ia_29, lenA_sl lk_25, o_indexAddrS es_25, loadA_eq ia_3, want_some q21_42g2, a1, h1, h4', hs]
    · have h4' : ¬ (40 : Int) < m := by omega
      have hs : ptdE r f n l m st = stpL st m 0 (-1) := by rw [hp]; unfold stpS; rw [if_neg h4]
      have this := l21 r f off n c off2 m c2 cs cs2 own own2 st hc2 (by omega) m 0 (by omega)
      have e0 : lastI st 0 = -1 := rfl
      simp only [Int.natCast_zero, e0] at this
      by_cases h5 : stpL st m 0 (-1) = 0
      · rw [if_pos h5] at this
        have h6 : ptdE r f n l m st = 0 := by rw [hs, h5]
        obtain ⟨S, ha, hm⟩ := ptd_chk h6
        have a2 := fun bx => k55 r f 0 off n c 1 off2 m c2 (-1) (h := .cells cs 3 true own :: .cells cs2 1 true own2 :: bx) S rfl rfl (by decide) hc hc2 (by omega)
        rcases Bool.eq_false_or_eq_true (clashS r f n l m st (-1)) with w | w
        · rw [w] at a2 ⊢
          simp (maxSteps := 1000000) (disch := first | omega | decide | assumption | simp [scal]) [loadA_eq ia_29, lenA_sl lk_25, o_indexAddrS es_25, loadA_eq ia_3, want_some q21_42g2, a1, a2, h1, h4', this, h6]
        · rw [w] at a2 ⊢
          simp (maxSteps := 1000000) (disch := first | omega | decide | assumption | simp [scal]) [loadA_eq ia_29, lenA_sl lk_25, o_indexAddrS es_25, loadA_eq ia_3, want_some q21_42g2, a1, a2, h1, h4', this, h6]
      · rw [if_neg h5] at this
        rw [hs]
        simp (maxSteps := 1000000) (disch := first | omega | decide | assumption | simp [scal]) [loadA_eq ia_29, lenA_sl lk_25, o_indexAddrS es_25, loadA_eq ia_3, want_some q21_42g2, a1, h1, h4', this, h5]
  · have hp : ptdE r f n l m st = chkS r f n l := by unfold ptdE; rw [if_pos h1]
    simp (maxSteps := 1000000) (disch := first | omega | decide | assumption | simp [scal]) [loadA_eq ia_29, lenA_sl lk_25, o_indexAddrS es_25, loadA_eq ia_3, want_some q21_42g2, a1, h1, hp]
end
section
variable (r f : Int) (b1 off n c b2 off2 m c2 : Nat) {cs cs2 : List Value} {own own2 : Bool} {l : Nat → Ab} {st : Nat → Int} {h : List Blk}
theorem k21 (hb : h[b1]? = some (.cells cs 3 true own)) (hb2 : h[b2]? = some (.cells cs2 1 true own2)) (hne : b1 ≠ b2) (hc : AbC cs off n l) (hc2 : IvC cs2 off2 m st) :
    callH LL 21 [shV r f b1 off n c, stV b2 off2 m c2] h = some ⟨iv (expE r f n l m st), h, [b1, b2], []⟩ :=
  callH_2 rfl hb hb2 hne noIdB_flat noIdB_flat (ss_ren r f b1 off n c b2 off2 m c2 hne) (c21 r f off n c off2 m c2 cs cs2 own own2 l st hc hc2) fun _ => rfl
end
end Go.Proofs.Ytiafgimgcbmgaaa.bl

namespace Go.Proofs.Ytiafgimgcbmgaaa.bl
open Go.GE
set_option linter.unusedVariables false
set_option linter.unusedSimpArgs false
set_option maxRecDepth 100000
set_option maxHeartbeats 4000000
attribute [local simp] runOps_nil runOps_cons runOpsF_nil runOpsF_cons fstS_some fstF_some opStep_eq want_none oStep_true oStep_false fin_pure fin_read fin_alloc fin_write storeB wrN cellV addWr o_move o_assign o_pick o_alloc o_box o_load o_store o_nilCheck o_bin o_un o_extract o_callV o_callB o_callI callV_f callV_y callV_fc o_makeFunc partsA Instr.fill builtin_len builtin_max2 bin_add bin_sub bin_mul bin_quo bin_rem bin_lss bin_leq bin_gtr bin_geq bin_eql bin_neq un_neg un_not bin_shr bin_shl wrap_u64_id opd opds optAll putO nbeq nblt constOk isC ops sub cl cr co bodyOf thenS_normal thenS_ret thenS_exit thenS_goto afterN_normal afterN_ret afterN_exit afterN_goto condS_true condS_false blockS_normal blockS_ret blockS_exit blockS_goto headS normS normK_eq fixS_nil fixS_cons fix1 fixV emptyB keepO_nil keepO_cons roundC_normal roundC_exit roundC_ret roundC_goto sweep_eq sweepD rnm pickR pickW rootsB ptrT renT ptrFn renFn ptrB_flat ptrB_non renB_flat renB_non plainS_some drawS_some fpsOk disj unord range' dropTo enumT undef wrap_i64_id Value.cells mkCells ptrTo scal cellsAt rdN endS_ret resultsA Option.bind_some tupV finish reachN dep ptrL_eq ptrL renL_eq renL ptrV_bool ptrV_int ptrV_string ptrV_nilFunc ptrV_nilIface ptrV_nilPtr ptrV_ptr ptrV_nilSl ptrV_sl ptrV_iface ptrV_agg ptrV_tuple ptrV_func renV_bool renV_int renV_string renV_nilFunc renV_nilIface renV_nilPtr renV_ptr renV_nilSl renV_sl renV_iface renV_agg renV_tuple renV_func gotoS_goto gotoS_normal gotoS_exit gotoS_ret skip_seq sliceE bnd bndHi intOf optOpd keepT_nil keepT_cons keepC_t keepC_f lk_nil lk_cons lkC_t lkC_f has_nil has_cons hasC_t hasC_f rep_nil rep_cons repC_t repC_f put_eq putC_t putC_f mem_nil mem_cons memC_t memC_f idx_nil idx_cons idxC_t idxC_f reach_nil reach_cons reachC_t reachC_f
attribute [local simp] n83_1s n83_3s n83_4s n83_2s n83_0s Try.f83 n82_1s n82_4s n82_8s n82_11s n82_12s n82_10s n82_16s n82_18s n82_21s n82_22s n82_20s n82_23s n82_19s n82_17s n82_15s n82_14s n82_24s n82_13s n82_9s n82_7s n82_6s n82_6g n82_5s n82_3s n82_26s n82_27s n82_25s n82_2s n82_0s Try.f82
/-- the first that serves, or -1 -/
def findL (P : Nat → Bool) : Nat → Nat → Int
  | 0, _ => -1
  | k + 1, i => if P i then i else findL P k (i + 1)
abbrev cl83 (b k : Nat) : Value := .func (.func 83) #[] #[pp b, pp k]
section
variable (r f : Int) (off n c : Nat) {cs : List Value} {own : Bool} {l : Nat → Ab}
theorem k83 (S : Sht r f n l) (hc : AbC cs off n l) (k : Nat) (hk : k < n) (a : Ab) (A : OkA a) (rest : List Blk) :
    callH LL 83 [abV a, pp 1, pp 2] (.cells cs 3 true own :: shB r f 0 off n c :: c1 k :: rest) = some ⟨.bool (needS r f a (l k)), .cells cs 3 true own :: shB r f 0 off n c :: c1 k :: rest, [1, 0, 2], []⟩ := by
  have e : LL.run 83 [abV a, pp 0, pp 2] [shB r f 1 off n c, .cells cs 3 true own, c1 k] = some ⟨.bool (needS r f a (l k)), [], []⟩ := by
    refine go (by decide) ?_
    rw [run83 _ _ _ (by simp)]
    obtain ⟨p2, p3, p4⟩ := hc k hk
    have a1 := fun bx rest => k58 r f 1 off n c (h := bx :: .cells cs 3 true own :: rest) (cs := cs) (own := own) S.dr a A (l k) (S.ok k hk) rfl
    simp (maxSteps := 1000000) (disch := first | omega | decide | assumption | simp [scal]) [loadA_eq ia_24, loadA_eq ia_59, o_fieldAddr fa_24_2 (by decide), loadA_eq ia_22, loadA_eq ia_3, o_indexAddrS es_22, p2, p3, p4, hk, a1]
  refine callH_of (by intro _; first | trivial | rfl) ?_ (by simp)
  unfold callH0
  have hp : ([abV a, pp 1, pp 2] : List Value).flatMap (ptrV dep) = [1, 2] := rfl
  have hm : ∀ q : Nat, 20 < q → reach (.cells cs 3 true own :: shB r f 0 off n c :: c1 k :: rest) 0 q [1, 2] [] = [1, 0, 2] := by
    intro q hq
    obtain ⟨q, rfl⟩ : ∃ j, q = j + 20 := ⟨q - 20, by omega⟩
    simp [reach_cons, reachC_t, reachC_f, reach_nil, rootsB, GE.mem, nblt, nbeq, ptrB, ptrV_sl, ptrV_int, dep]
  simp only [hp, hm reachN (by decide)]
  simp [optAll, renL, renV_ptr, dep, idx, nbeq, renB, renL_eq, renV_int, renV_sl, renV_agg, e, mergeB, renV_bool]
theorem l82 (S : Sht r f n l) (hc : AbC cs off n l) (k : Nat) (hk : k < n) (first q0 c' : Nat) (hq0 : first + q0 ≤ n) : ∀ q i : Nat, i + q = q0 →
    lpB Try.prog LL ⟨82, 19, 3, none⟩ n82_6 n82_7 ⟨[(0, .slice (some ⟨0, off + first * 3, none⟩) q0 c'), (1, cl83 1 2), (7, iv q0), (8, iv i)], [.cells cs 3 true own, shB r f 0 off n c, c1 k], []⟩ =
      if findL (fun i => needS r f (l (first + i)) (l k)) q i = -1 then some (.exit 0, ⟨[], [.cells cs 3 true own, shB r f 0 off n c, c1 k], []⟩)
      else some (.ret, ⟨[(4, iv (findL (fun i => needS r f (l (first + i)) (l k)) q i))], [.cells cs 3 true own, shB r f 0 off n c, c1 k], []⟩) := by
  have hn := S.n40
  intro q
  induction q with
  | zero =>
    intro i hi
    obtain rfl : i = q0 := by omega
    rw [lpB_eq]
    simp (maxSteps := 1000000) (disch := first | omega | decide | assumption | simp [scal]) [lenA_sl lk_22, o_indexAddrS es_22, loadA_eq ia_59, findL]
  | succ q ih =>
    intro i hi
    have e1 : i < q0 := by omega
    have e0 : first + i < n := by omega
    have this := ih (i + 1) (by omega)
    simp only [cast1] at this
    obtain ⟨p2, p3, p4⟩ := hc _ e0
    rw [show off + (first + i) * 3 = off + first * 3 + i * 3 by omega] at p2 p3 p4
    have a1 := k83 r f off n c (cs := cs) (own := own) S hc k hk (l (first + i)) (S.ok _ e0)
    rw [lpB_eq]
    rcases Bool.eq_false_or_eq_true (needS r f (l (first + i)) (l k)) with w | w
    · have hne : ¬ ((i : Int) = -1) := by omega
      rw [w] at a1
      simp (maxSteps := 1000000) (disch := first | omega | decide | assumption | simp [scal]) [lenA_sl lk_22, o_indexAddrS es_22, loadA_eq ia_59, findL, e1, p2, p3, p4, a1, w, hne]
    · rw [w] at a1
      simp (maxSteps := 1000000) (disch := first | omega | decide | assumption | simp [scal]) [lenA_sl lk_22, o_indexAddrS es_22, loadA_eq ia_59, findL, e1, p2, p3, p4, a1, w, this]
theorem c82 (S : Sht r f n l) (hc : AbC cs off n l) (k : Nat) (hk : k < n) (first q0 c' : Nat) (hq0 : first + q0 ≤ n) :
    LL.run 82 [.slice (some ⟨0, off + first * 3, none⟩) q0 c', cl83 1 2] [.cells cs 3 true own, shB r f 0 off n c, c1 k] = some ⟨iv (findL (fun i => needS r f (l (first + i)) (l k)) q0 0), [], []⟩ := by
  refine go (by decide) ?_
  rw [run82 _ _ _ (by simp)]
  have hn := S.n40
  have this := l82 r f off n c (own := own) S hc k hk first q0 c' hq0 q0 0 (by omega)
  simp only [Int.natCast_zero] at this
  by_cases w : findL (fun i => needS r f (l (first + i)) (l k)) q0 0 = -1
  · rw [if_pos w] at this
    simp (maxSteps := 1000000) (disch := first | omega | decide | assumption | simp [scal]) [lenA_sl lk_22, o_indexAddrS es_22, loadA_eq ia_59, this, w]
  · rw [if_neg w] at this
    simp (maxSteps := 1000000) (disch := first | omega | decide | assumption | simp [scal]) [lenA_sl lk_22, o_indexAddrS es_22, loadA_eq ia_59, this]
theorem k82 (S : Sht r f n l) (hc : AbC cs off n l) (k : Nat) (hk : k < n) (first q0 c' : Nat) (hq0 : first + q0 ≤ n) (b : Blk) (rest : List Blk) :
    callH LL 82 [.slice (some ⟨0, off + first * 3, none⟩) q0 c', cl83 1 3] (.cells cs 3 true own :: shB r f 0 off n c :: b :: c1 k :: rest) =
      some ⟨iv (findL (fun i => needS r f (l (first + i)) (l k)) q0 0), .cells cs 3 true own :: shB r f 0 off n c :: b :: c1 k :: rest, [0, 1, 3], []⟩ := by
  have e := c82 r f off n c (own := own) S hc k hk first q0 c' hq0
  refine callH_of (by intro _; first | trivial | rfl) ?_ (by simp)
  unfold callH0
  have hp : ([.slice (some ⟨0, off + first * 3, none⟩) q0 c', cl83 1 3] : List Value).flatMap (ptrV dep) = [0, 1, 3] := rfl
  have hm : ∀ q : Nat, 20 < q → reach (.cells cs 3 true own :: shB r f 0 off n c :: b :: c1 k :: rest) 0 q [0, 1, 3] [] = [0, 1, 3] := by
    intro q hq
    obtain ⟨q, rfl⟩ : ∃ j, q = j + 20 := ⟨q - 20, by omega⟩
    simp [reach_cons, reachC_t, reachC_f, reach_nil, rootsB, GE.mem, nblt, nbeq, ptrB, ptrV_sl, ptrV_int, dep]
  simp only [hp, hm reachN (by decide)]
  simp [optAll, renL, renV_func, renFn, renV_ptr, dep, idx, nbeq, renB, renL_eq, renV_int, renV_sl, renV_agg, e, mergeB, renV_bool]
end
end Go.Proofs.Ytiafgimgcbmgaaa.bl

namespace Go.Proofs.Ytiafgimgcbmgaaa.bl
open Go.GE
set_option linter.unusedVariables false
set_option linter.unusedSimpArgs false
set_option maxRecDepth 100000
set_option maxHeartbeats 4000000
attribute [local simp] runOps_nil runOps_cons runOpsF_nil runOpsF_cons fstS_some fstF_some opStep_eq want_none oStep_true oStep_false fin_pure fin_read fin_alloc fin_write storeB wrN cellV addWr o_move o_assign o_pick o_alloc o_box o_load o_store o_nilCheck o_bin o_un o_extract o_callV o_callB o_callI callV_f callV_y callV_fc o_makeFunc partsA Instr.fill builtin_len builtin_max2 bin_add bin_sub bin_mul bin_quo bin_rem bin_lss bin_leq bin_gtr bin_geq bin_eql bin_neq un_neg un_not bin_shr bin_shl wrap_u64_id opd opds optAll putO nbeq nblt constOk isC ops sub cl cr co bodyOf thenS_normal thenS_ret thenS_exit thenS_goto afterN_normal afterN_ret afterN_exit afterN_goto condS_true condS_false blockS_normal blockS_ret blockS_exit blockS_goto headS normS normK_eq fixS_nil fixS_cons fix1 fixV emptyB keepO_nil keepO_cons roundC_normal roundC_exit roundC_ret roundC_goto sweep_eq sweepD rnm pickR pickW rootsB ptrT renT ptrFn renFn ptrB_flat ptrB_non renB_flat renB_non plainS_some drawS_some fpsOk disj unord range' dropTo enumT undef wrap_i64_id Value.cells mkCells ptrTo scal cellsAt rdN endS_ret resultsA Option.bind_some tupV finish reachN dep ptrL_eq ptrL renL_eq renL ptrV_bool ptrV_int ptrV_string ptrV_nilFunc ptrV_nilIface ptrV_nilPtr ptrV_ptr ptrV_nilSl ptrV_sl ptrV_iface ptrV_agg ptrV_tuple ptrV_func renV_bool renV_int renV_string renV_nilFunc renV_nilIface renV_nilPtr renV_ptr renV_nilSl renV_sl renV_iface renV_agg renV_tuple renV_func gotoS_goto gotoS_normal gotoS_exit gotoS_ret skip_seq sliceE bnd bndHi intOf optOpd keepT_nil keepT_cons keepC_t keepC_f lk_nil lk_cons lkC_t lkC_f has_nil has_cons hasC_t hasC_f rep_nil rep_cons repC_t repC_f put_eq putC_t putC_f mem_nil mem_cons memC_t memC_f idx_nil idx_cons idxC_t idxC_f reach_nil reach_cons reachC_t reachC_f
attribute [local simp] n50_1s n50_4s n50_6s n50_8s n50_11s n50_14s n50_15s n50_13s n50_16s n50_12s n50_10s n50_19s n50_21s n50_24s n50_25s n50_23s n50_26s n50_22s n50_20s n50_18s n50_28s n50_29s n50_27s n50_17s n50_9s n50_7s n50_5s n50_3s n50_2s n50_2j0 n50_2i0 n50_0s Try.f50
theorem findL_spec {P : Nat → Bool} : ∀ k i, (findL P k i = -1 ∧ ∀ j, i ≤ j → j < i + k → P j = false) ∨ ∃ j : Nat, findL P k i = j ∧ i ≤ j ∧ j < i + k ∧ P j = true ∧ ∀ m, i ≤ m → m < j → P m = false := by
  intro k
  induction k with
  | zero => intro i; exact .inl ⟨rfl, fun j h1 h2 => by omega⟩
  | succ k ih =>
    intro i
    unfold findL
    rcases Bool.eq_false_or_eq_true (P i) with w | w
    · rw [if_pos w]; exact .inr ⟨i, rfl, by omega, by omega, w, fun m h1 h2 => by omega⟩
    · rw [if_neg (by simp [w])]
      rcases ih (i + 1) with ⟨h1, h2⟩ | ⟨j, h1, h2, h3, h4, h5⟩
      · refine .inl ⟨h1, fun j a b => ?_⟩
        rcases Nat.eq_or_lt_of_le a with rfl | a
        · exact w
        · exact h2 j (by omega) (by omega)
      · refine .inr ⟨j, h1, by omega, by omega, h4, fun m a b => ?_⟩
        rcases Nat.eq_or_lt_of_le a with rfl | a
        · exact w
        · exact h5 m (by omega) b
/-- pairs that are apart and need a step each -/
def fewL (r f : Int) (l : Nat → Ab) : Nat → Nat → Nat → List (Nat × Nat) → List (Nat × Nat)
  | 0, _, _, a => a
  | q + 1, k, first, a =>
    let i := findL (fun i => needS r f (l (first + i)) (l k)) (k - first) 0
    if i = -1 then fewL r f l q (k + 1) first a else fewL r f l q (k + 1) k (a ++ [(first + i.toNat, k)])
def prG (q : Nat × Nat) : List Value := [iv q.1, iv q.2]
def prB (a : List (Nat × Nat)) : Blk := .cells (a.flatMap prG) 2 true true
theorem prB_len (a : List (Nat × Nat)) : (a.flatMap prG).length = a.length * 2 := flat_len (g := prG) fun _ => rfl
theorem prB_flat {a : List (Nat × Nat)} : ptrB (prB a) = [] := rfl
theorem prB_ren {g : Nat → Option Nat} {a : List (Nat × Nat)} : renB g (prB a) = some (prB a) := rfl
section
variable (r f : Int) (off n c : Nat) {cs : List Value} {own : Bool} {l : Nat → Ab}
theorem s50 (S : Sht r f n l) (hc : AbC cs off n l) (hnc : n ≤ c) : ∀ q k first (a : List (Nat × Nat)), k + q = n → first ≤ k → a.length ≤ k →
    scpL Try.prog LL ⟨50, 33, 1, none⟩ n50_3 r50_0 ⟨[(1, pp 1), (3, .slice (some ⟨2, 0, none⟩) a.length a.length), (4, iv first), (5, pp 3)], [.cells cs 3 true own, shB r f 0 off n c, prB a, c1 k], []⟩ =
      some (.ret, ⟨[(2, .slice (some ⟨1, 0, none⟩) (fewL r f l q k first a).length (fewL r f l q k first a).length)], [.cells cs 3 true own, prB (fewL r f l q k first a)], []⟩) := by
  have hn := S.n40
  intro q
  induction q with
  | zero =>
    intro k first a hk hf ha
    obtain rfl : k = n := by omega
    rw [scpL_eq]
    simp (maxSteps := 1000000) (disch := first | omega | decide | assumption | simp [scal]) [za_3, sz_3, loadA_eq ia_3, o_fieldAddr fa_24_2 (by decide), loadA_eq ia_22, lenA_sl lk_22, o_sliceS sl_22, za_95, o_build za_95 pl_95, o_indexAddrS es_41, ze_41, o_buildSlice es_41 ze_41 (by decide) ba_41_1, ap_41, builtin_append ni_41, fewL, prB_flat, prB_ren]
  | succ q ih =>
    intro k first a hk hf ha
    have e1 : k < n := by omega
    have e1' : ¬ (k : Int) = n := by omega
    have e2 : (k : Int) ≤ c := by omega
    have e3 : (first : Int) ≤ k := by omega
    have a1 := k82 r f off n c (own := own) S hc k e1 first (k - first) (c - first) (by omega) (prB a)
    rw [scpL_eq]
    rcases findL_spec (P := fun i => needS r f (l (first + i)) (l k)) (k - first) 0 with ⟨w, _⟩ | ⟨j, w, _, w2, _⟩
    · have this := ih (k + 1) first a (by omega) (by omega) (by omega)
      have hf : fewL r f l (q + 1) k first a = fewL r f l q (k + 1) first a := by simp only [fewL]; rw [if_pos w]
      rw [hf]
      rw [w] at a1
      simp only [cast1] at this
      simp (maxSteps := 1000000) (disch := first | omega | decide | assumption | simp [scal]) [za_3, sz_3, loadA_eq ia_3, o_fieldAddr fa_24_2 (by decide), loadA_eq ia_22, lenA_sl lk_22, o_sliceS sl_22, za_95, o_build za_95 pl_95, o_indexAddrS es_41, ze_41, o_buildSlice es_41 ze_41 (by decide) ba_41_1, ap_41, builtin_append ni_41, prB_flat, prB_ren, e1', e2, e3, a1, this]
    · have this := ih (k + 1) k (a ++ [(first + j, k)]) (by omega) (by omega) (by simp; omega)
      have hf : fewL r f l (q + 1) k first a = fewL r f l q (k + 1) k (a ++ [(first + j, k)]) := by simp only [fewL]; rw [if_neg (by rw [w]; omega), w]; rfl
      rw [hf]
      rw [w] at a1
      have c1 := fun h b c rd => app_list (h := h) (b := b) (c := c) (k := 2) (by' := 16) (l := a.length) (cs := a.flatMap prG) (new := [iv ((first : Int) + j), iv k]) (rd := rd) (prB_len a) (by omega) (by omega) rfl
      have e4 : ¬ ((j : Int) = -1) := by omega
      simp only [cast1, prB, List.flatMap_append, List.flatMap_cons, List.flatMap_nil, List.append_nil, List.length_append, List.length_cons, List.length_nil, Nat.zero_add] at this a1 ⊢
      rw [show prG (first + j, k) = [iv ((first : Int) + j), iv k] from rfl] at this
      simp (maxSteps := 1000000) (disch := first | omega | decide | assumption | simp [scal]) [za_3, sz_3, loadA_eq ia_3, o_fieldAddr fa_24_2 (by decide), loadA_eq ia_22, lenA_sl lk_22, o_sliceS sl_22, za_95, o_build za_95 pl_95, o_indexAddrS es_41, ze_41, o_buildSlice es_41 ze_41 (by decide) ba_41_1, ap_41, builtin_append ni_41, e1', e2, e3, e4, a1, append_some ap_41, srcCells, c1, this]
end
end Go.Proofs.Ytiafgimgcbmgaaa.bl

namespace Go.Proofs.Ytiafgimgcbmgaaa.bl
open Go.GE
set_option linter.unusedVariables false
set_option linter.unusedSimpArgs false
set_option maxRecDepth 100000
set_option maxHeartbeats 4000000
attribute [local simp] runOps_nil runOps_cons runOpsF_nil runOpsF_cons fstS_some fstF_some opStep_eq want_none oStep_true oStep_false fin_pure fin_read fin_alloc fin_write storeB wrN cellV addWr o_move o_assign o_pick o_alloc o_box o_load o_store o_nilCheck o_bin o_un o_extract o_callV o_callB o_callI callV_f callV_y callV_fc o_makeFunc partsA Instr.fill builtin_len builtin_max2 bin_add bin_sub bin_mul bin_quo bin_rem bin_lss bin_leq bin_gtr bin_geq bin_eql bin_neq un_neg un_not bin_shr bin_shl wrap_u64_id opd opds optAll putO nbeq nblt constOk isC ops sub cl cr co bodyOf thenS_normal thenS_ret thenS_exit thenS_goto afterN_normal afterN_ret afterN_exit afterN_goto condS_true condS_false blockS_normal blockS_ret blockS_exit blockS_goto headS normS normK_eq fixS_nil fixS_cons fix1 fixV emptyB keepO_nil keepO_cons roundC_normal roundC_exit roundC_ret roundC_goto sweep_eq sweepD rnm pickR pickW rootsB ptrT renT ptrFn renFn ptrB_flat ptrB_non renB_flat renB_non plainS_some drawS_some fpsOk disj unord range' dropTo enumT undef wrap_i64_id Value.cells mkCells ptrTo scal cellsAt rdN endS_ret resultsA Option.bind_some tupV finish reachN dep ptrL_eq ptrL renL_eq renL ptrV_bool ptrV_int ptrV_string ptrV_nilFunc ptrV_nilIface ptrV_nilPtr ptrV_ptr ptrV_nilSl ptrV_sl ptrV_iface ptrV_agg ptrV_tuple ptrV_func renV_bool renV_int renV_string renV_nilFunc renV_nilIface renV_nilPtr renV_ptr renV_nilSl renV_sl renV_iface renV_agg renV_tuple renV_func gotoS_goto gotoS_normal gotoS_exit gotoS_ret skip_seq sliceE bnd bndHi intOf optOpd keepT_nil keepT_cons keepC_t keepC_f lk_nil lk_cons lkC_t lkC_f has_nil has_cons hasC_t hasC_f rep_nil rep_cons repC_t repC_f put_eq putC_t putC_f mem_nil mem_cons memC_t memC_f idx_nil idx_cons idxC_t idxC_f reach_nil reach_cons reachC_t reachC_f
attribute [local simp] n50_1s n50_4s n50_6s n50_8s n50_11s n50_14s n50_15s n50_13s n50_16s n50_12s n50_10s n50_19s n50_21s n50_24s n50_25s n50_23s n50_26s n50_22s n50_20s n50_18s n50_28s n50_29s n50_27s n50_17s n50_9s n50_7s n50_5s n50_3s n50_2s n50_2j0 n50_2i0 n50_0s Try.f50
def fewS (r f : Int) (l : Nat → Ab) (n : Nat) : List (Nat × Nat) := fewL r f l n 0 0 []
section
variable (r f : Int) (off n c : Nat) {cs : List Value} {own : Bool} {l : Nat → Ab}
theorem c50 (S : Sht r f n l) (hc : AbC cs off n l) (hnc : n ≤ c) : LL.run 50 [shV r f 0 off n c] [.cells cs 3 true own] = some ⟨.slice (some ⟨1, 0, none⟩) (fewS r f l n).length (fewS r f l n).length, [prB (fewS r f l n)], []⟩ := by
  refine go (by decide) ?_
  rw [run50 _ _ _ (by simp)]
  have this := s50 r f off n c (own := own) S hc hnc n 0 0 [] (by omega) (by omega) (by simp)
  rw [scpL_eq, n50_2i0] at this
  simp only [prB, Int.natCast_zero, List.flatMap_nil, List.length_nil] at this
  rw [← fewS] at this
  have hl : ∀ a, prB a = .cells (a.flatMap prG) 2 true true := fun _ => rfl
  simp only [hl]
  simp (maxSteps := 1000000) (disch := first | omega | decide | assumption | simp [scal]) [za_3, sz_3, loadA_eq ia_3, o_fieldAddr fa_24_2 (by decide), loadA_eq ia_22, lenA_sl lk_22, o_sliceS sl_22, za_95, o_build za_95 pl_95, o_indexAddrS es_41, ze_41, o_buildSlice es_41 ze_41 (by decide) ba_41_1, ap_41, builtin_append ni_41, -n50_9s]
  rw [this]
  simp (maxSteps := 1000000) (disch := first | omega | decide | assumption | simp [scal]) [za_3, sz_3, loadA_eq ia_3, o_fieldAddr fa_24_2 (by decide), loadA_eq ia_22, lenA_sl lk_22, o_sliceS sl_22, za_95, o_build za_95 pl_95, o_indexAddrS es_41, ze_41, o_buildSlice es_41 ze_41 (by decide) ba_41_1, ap_41, builtin_append ni_41]
end
end Go.Proofs.Ytiafgimgcbmgaaa.bl

namespace Go.Proofs.Ytiafgimgcbmgaaa.bl
open Go.GE
set_option linter.unusedVariables false
set_option linter.unusedSimpArgs false
set_option maxRecDepth 100000
set_option maxHeartbeats 4000000
attribute [local simp] runOps_nil runOps_cons runOpsF_nil runOpsF_cons fstS_some fstF_some opStep_eq want_none oStep_true oStep_false fin_pure fin_read fin_alloc fin_write storeB wrN cellV addWr o_move o_assign o_pick o_alloc o_box o_load o_store o_nilCheck o_bin o_un o_extract o_callV o_callB o_callI callV_f callV_y callV_fc o_makeFunc partsA Instr.fill builtin_len builtin_max2 bin_add bin_sub bin_mul bin_quo bin_rem bin_lss bin_leq bin_gtr bin_geq bin_eql bin_neq un_neg un_not bin_shr bin_shl wrap_u64_id opd opds optAll putO nbeq nblt constOk isC ops sub cl cr co bodyOf thenS_normal thenS_ret thenS_exit thenS_goto afterN_normal afterN_ret afterN_exit afterN_goto condS_true condS_false blockS_normal blockS_ret blockS_exit blockS_goto headS normS normK_eq fixS_nil fixS_cons fix1 fixV emptyB keepO_nil keepO_cons roundC_normal roundC_exit roundC_ret roundC_goto sweep_eq sweepD rnm pickR pickW rootsB ptrT renT ptrFn renFn ptrB_flat ptrB_non renB_flat renB_non plainS_some drawS_some fpsOk disj unord range' dropTo enumT undef wrap_i64_id Value.cells mkCells ptrTo scal cellsAt rdN endS_ret resultsA Option.bind_some tupV finish reachN dep ptrL_eq ptrL renL_eq renL ptrV_bool ptrV_int ptrV_string ptrV_nilFunc ptrV_nilIface ptrV_nilPtr ptrV_ptr ptrV_nilSl ptrV_sl ptrV_iface ptrV_agg ptrV_tuple ptrV_func renV_bool renV_int renV_string renV_nilFunc renV_nilIface renV_nilPtr renV_ptr renV_nilSl renV_sl renV_iface renV_agg renV_tuple renV_func gotoS_goto gotoS_normal gotoS_exit gotoS_ret skip_seq sliceE bnd bndHi intOf optOpd keepT_nil keepT_cons keepC_t keepC_f lk_nil lk_cons lkC_t lkC_f has_nil has_cons hasC_t hasC_f rep_nil rep_cons repC_t repC_f put_eq putC_t putC_f mem_nil mem_cons memC_t memC_f idx_nil idx_cons idxC_t idxC_f reach_nil reach_cons reachC_t reachC_f
attribute [local simp] n51_1s n51_3s n51_4s n51_2s n51_0s Try.f51 n49_1s n49_3s n49_6s n49_10s n49_13s n49_14s n49_12s n49_18s n49_19s n49_17s n49_16s n49_20s n49_15s n49_11s n49_9s n49_8s n49_8g n49_7s n49_5s n49_22s n49_23s n49_21s n49_4s n49_2s n49_0s Try.f49
def iB (x : List Int) : Blk := .cells (x.map iv) 1 true true
theorem iB_flat {a : List Int} : ptrB (iB a) = [] := rfl
theorem iB_ren {g : Nat → Option Nat} {a : List Int} : renB g (iB a) = some (iB a) := rfl
theorem prG_get {a : List (Nat × Nat)} {i : Nat} {q : Nat × Nat} (h : a[i]? = some q) : (a.flatMap prG)[i * 2]? = some (iv q.1) ∧ (a.flatMap prG)[i * 2 + 1]? = some (iv q.2) :=
  ⟨by have := flat_get (g := prG) (k := 2) (fun _ => rfl) h (j := 0) (by omega); simpa [prG] using this, by have := flat_get (g := prG) (k := 2) (fun _ => rfl) h (j := 1) (by omega); simpa [prG] using this⟩
theorem fewL_mem {r f : Int} {l : Nat → Ab} {n : Nat} : ∀ q k first (a : List (Nat × Nat)), k + q = n → first ≤ k → (∀ p, p ∈ a → p.1 < p.2 ∧ p.2 < n) → ∀ p, p ∈ fewL r f l q k first a → p.1 < p.2 ∧ p.2 < n := by
  intro q
  induction q with
  | zero => intro k first a hk hf ha p hp; exact ha p hp
  | succ q ih =>
    intro k first a hk hf ha p hp
    simp only [fewL] at hp
    split at hp
    · exact ih _ _ _ (by omega) (by omega) ha p hp
    · rename_i w
      rcases findL_spec (P := fun i => needS r f (l (first + i)) (l k)) (k - first) 0 with ⟨w1, _⟩ | ⟨j, w1, _, w2, _⟩
      · exact absurd w1 w
      · refine ih _ _ _ (by omega) (by omega) (fun p hp => ?_) p hp
        rw [List.mem_append, List.mem_singleton] at hp
        rcases hp with hp | rfl
        · exact ha p hp
        · rw [w1]; simp only [Int.toNat_natCast]; omega
theorem fewS_mem {r f : Int} {l : Nat → Ab} {n : Nat} {p : Nat × Nat} (h : p ∈ fewS r f l n) : p.1 < p.2 ∧ p.2 < n := fewL_mem n 0 0 [] (by omega) (by omega) (by simp) p h
theorem fewL_len {r f : Int} {l : Nat → Ab} : ∀ q k first (a : List (Nat × Nat)), (fewL r f l q k first a).length ≤ a.length + q := by
  intro q
  induction q with
  | zero => intro k first a; simp [fewL]
  | succ q ih =>
    intro k first a
    simp only [fewL]
    split
    · have := ih (k + 1) first a; omega
    · have := ih (k + 1) k (a ++ [(first + (findL (fun i => needS r f (l (first + i)) (l k)) (k - first) 0).toNat, k)])
      simp at this ⊢; omega
theorem fewS_len {r f : Int} {l : Nat → Ab} {n : Nat} : (fewS r f l n).length ≤ n := by unfold fewS; have := fewL_len (r := r) (f := f) (l := l) n 0 0 []; simpa using this
abbrev cl51 (b : Nat) : Value := .func (.func 51) #[] #[pp b]
def stpsOf (l : Nat → Ab) (a : List (Nat × Nat)) : List Int := a.map fun q => (l q.2).h - 1
section
variable (r f : Int) (off n c : Nat) {cs : List Value} {own : Bool} {l : Nat → Ab}
theorem k51 (S : Sht r f n l) (hc : AbC cs off n l) (q : Nat × Nat) (hq : q.2 < n) (b : Blk) (rest : List Blk) :
    callH LL 51 [.agg #[iv q.1, iv q.2], pp 1] (b :: shB r f 2 off n c :: .cells cs 3 true own :: rest) = some ⟨iv ((l q.2).h - 1), b :: shB r f 2 off n c :: .cells cs 3 true own :: rest, [1, 2], []⟩ := by
  have e : LL.run 51 [.agg #[iv q.1, iv q.2], pp 0] [shB r f 1 off n c, .cells cs 3 true own] = some ⟨iv ((l q.2).h - 1), [], []⟩ := by
    refine go (by decide) ?_
    rw [run51 _ _ _ (by simp)]
    obtain ⟨p2, p3, p4⟩ := hc _ hq
    obtain ⟨o1, o2, _, _, _⟩ := S.ok _ hq
    simp (maxSteps := 1000000) (disch := first | omega | decide | assumption | simp [scal]) [o_fieldAddr fa_24_2 (by decide), loadA_eq ia_22, o_fieldAddr fa_95_1 (by decide), loadA_eq ia_3, o_indexAddrS es_22, o_fieldAddr fa_59_0 (by decide), p2, p3, p4, hq]
  refine callH_of (by intro _; first | trivial | rfl) ?_ (by simp)
  unfold callH0
  have hp : ([.agg #[iv q.1, iv q.2], pp 1] : List Value).flatMap (ptrV dep) = [1] := rfl
  have hm : ∀ k : Nat, 20 < k → reach (b :: shB r f 2 off n c :: .cells cs 3 true own :: rest) 0 k [1] [] = [1, 2] := by
    intro k hk
    obtain ⟨k, rfl⟩ : ∃ j, k = j + 20 := ⟨k - 20, by omega⟩
    simp [reach_cons, reachC_t, reachC_f, reach_nil, rootsB, GE.mem, nblt, nbeq, ptrB, ptrV_sl, ptrV_int, dep]
  simp only [hp, hm reachN (by decide)]
  simp [optAll, renL, renV_ptr, dep, idx, nbeq, renB, renL_eq, renV_int, renV_sl, renV_agg, e, mergeB]
theorem l49 (S : Sht r f n l) (hc : AbC cs off n l) (a : List (Nat × Nat)) (ha : ∀ p, p ∈ a → p.2 < n) (hl : a.length ≤ 1000) : ∀ q i : Nat, i + q = a.length →
    lpB Try.prog LL ⟨49, 22, 3, none⟩ n49_8 n49_9 ⟨[(1, cl51 1), (5, .slice (some ⟨3, 0, none⟩) i i), (8, .slice (some ⟨0, 0, none⟩) a.length a.length), (9, iv a.length), (10, iv i)], [prB a, shB r f 2 off n c, .cells cs 3 true own, iB ((stpsOf l a).take i)], []⟩ =
      some (.exit 0, ⟨[(5, .slice (some ⟨3, 0, none⟩) a.length a.length)], [prB a, shB r f 2 off n c, .cells cs 3 true own, iB (stpsOf l a)], []⟩) := by
  intro q
  induction q with
  | zero =>
    intro i hi
    obtain rfl : i = a.length := by omega
    have hfull : (stpsOf l a).take a.length = stpsOf l a := List.take_of_length_le (by simp [stpsOf])
    rw [hfull, lpB_eq]
    simp (maxSteps := 1000000) (disch := first | omega | decide | assumption | simp [scal]) [lenA_sl lk_41, o_indexAddrS es_41, loadA_eq ia_95, za_95, sz_95, o_indexAddrS es_25, ze_25, o_buildSlice es_25 ze_25 (by decide) ba_25_1, ap_25, builtin_append ni_25, prB_flat, prB_ren, iB_flat, iB_ren]
  | succ q ih =>
    intro i hi
    have e1 : i < a.length := by omega
    have this := ih (i + 1) (by omega)
    obtain ⟨p, hp⟩ : ∃ p, a[i]? = some p := ⟨_, List.getElem?_eq_getElem e1⟩
    have hpm : p ∈ a := List.mem_of_getElem? hp
    obtain ⟨g1, g2⟩ := prG_get hp
    have hs : (stpsOf l a)[i]? = some ((l p.2).h - 1) := by simp [stpsOf, hp]
    have ht : (stpsOf l a).take (i + 1) = (stpsOf l a).take i ++ [(l p.2).h - 1] := by rw [List.take_add_one, hs]; rfl
    have hlen : ((stpsOf l a).take i).length = i := by simp [stpsOf]; omega
    have a1 := k51 r f off n c (own := own) S hc p (ha p hpm) (prB a)
    rw [ht] at this
    rw [lpB_eq]
    generalize (stpsOf l a).take i = o at *
    have c1 := fun h b c rd => app_list (h := h) (b := b) (c := c) (k := 1) (by' := 8) (l := i) (cs := o.map iv) (new := [iv ((l p.2).h - 1)]) (rd := rd) (by simp [hlen]) (by omega) (by omega) rfl
    simp only [cast1, prB, iB, List.map_append, List.map_cons, List.map_nil] at this a1 ⊢
    simp (maxSteps := 1000000) (disch := first | omega | decide | assumption | simp [scal]) [lenA_sl lk_41, o_indexAddrS es_41, loadA_eq ia_95, za_95, sz_95, o_indexAddrS es_25, ze_25, o_buildSlice es_25 ze_25 (by decide) ba_25_1, ap_25, builtin_append ni_25, e1, g1, g2, a1, append_some ap_25, srcCells, c1, this]
end
end Go.Proofs.Ytiafgimgcbmgaaa.bl

namespace Go.Proofs.Ytiafgimgcbmgaaa.bl
open Go.GE
set_option linter.unusedVariables false
set_option linter.unusedSimpArgs false
set_option maxRecDepth 100000
set_option maxHeartbeats 4000000
attribute [local simp] runOps_nil runOps_cons runOpsF_nil runOpsF_cons fstS_some fstF_some opStep_eq want_none oStep_true oStep_false fin_pure fin_read fin_alloc fin_write storeB wrN cellV addWr o_move o_assign o_pick o_alloc o_box o_load o_store o_nilCheck o_bin o_un o_extract o_callV o_callB o_callI callV_f callV_y callV_fc o_makeFunc partsA Instr.fill builtin_len builtin_max2 bin_add bin_sub bin_mul bin_quo bin_rem bin_lss bin_leq bin_gtr bin_geq bin_eql bin_neq un_neg un_not bin_shr bin_shl wrap_u64_id opd opds optAll putO nbeq nblt constOk isC ops sub cl cr co bodyOf thenS_normal thenS_ret thenS_exit thenS_goto afterN_normal afterN_ret afterN_exit afterN_goto condS_true condS_false blockS_normal blockS_ret blockS_exit blockS_goto headS normS normK_eq fixS_nil fixS_cons fix1 fixV emptyB keepO_nil keepO_cons roundC_normal roundC_exit roundC_ret roundC_goto sweep_eq sweepD rnm pickR pickW rootsB ptrT renT ptrFn renFn ptrB_flat ptrB_non renB_flat renB_non plainS_some drawS_some fpsOk disj unord range' dropTo enumT undef wrap_i64_id Value.cells mkCells ptrTo scal cellsAt rdN endS_ret resultsA Option.bind_some tupV finish reachN dep ptrL_eq ptrL renL_eq renL ptrV_bool ptrV_int ptrV_string ptrV_nilFunc ptrV_nilIface ptrV_nilPtr ptrV_ptr ptrV_nilSl ptrV_sl ptrV_iface ptrV_agg ptrV_tuple ptrV_func renV_bool renV_int renV_string renV_nilFunc renV_nilIface renV_nilPtr renV_ptr renV_nilSl renV_sl renV_iface renV_agg renV_tuple renV_func gotoS_goto gotoS_normal gotoS_exit gotoS_ret skip_seq sliceE bnd bndHi intOf optOpd keepT_nil keepT_cons keepC_t keepC_f lk_nil lk_cons lkC_t lkC_f has_nil has_cons hasC_t hasC_f rep_nil rep_cons repC_t repC_f put_eq putC_t putC_f mem_nil mem_cons memC_t memC_f idx_nil idx_cons idxC_t idxC_f reach_nil reach_cons reachC_t reachC_f
attribute [local simp] n49_1s n49_3s n49_6s n49_10s n49_13s n49_14s n49_12s n49_18s n49_19s n49_17s n49_16s n49_20s n49_15s n49_11s n49_9s n49_8s n49_8g n49_7s n49_5s n49_22s n49_23s n49_21s n49_4s n49_2s n49_0s Try.f49 n17_1s n17_4s n17_6s n17_9s n17_10s n17_8s n17_11s n17_7s n17_5s n17_3s n17_13s n17_14s n17_12s n17_2s n17_0s Try.f17
theorem iB_noId {a : List Int} : noIdB (iB a) := noIdB_flat
theorem prB_noId {a : List (Nat × Nat)} : noIdB (prB a) := noIdB_flat
/-- a whole list, at block b -/
abbrev wh (b m : Nat) : Value := .slice (some ⟨b, 0, none⟩) m m
noncomputable def fewR (r f : Int) (n : Nat) (l : Nat → Ab) : List Int := if chkS r f n l = 0 then stpsOf l (fewS r f l n) else []
section
variable (r f : Int) (off n c : Nat) {cs : List Value} {own : Bool} {l : Nat → Ab}
theorem c49 (S : Sht r f n l) (hc : AbC cs off n l) (a : List (Nat × Nat)) (ha : ∀ p, p ∈ a → p.2 < n) (hl : a.length ≤ 1000) :
    LL.run 49 [wh 0 a.length, cl51 1] [prB a, shB r f 2 off n c, .cells cs 3 true own] = some ⟨wh 3 a.length, [iB (stpsOf l a)], []⟩ := by
  refine go (by decide) ?_
  rw [run49 _ _ _ (by simp)]
  have this := l49 r f off n c (own := own) S hc a ha hl a.length 0 (by omega)
  simp only [Int.natCast_zero, List.take_zero, iB, List.map_nil] at this
  simp only [iB, prB] at this ⊢
  simp (maxSteps := 1000000) (disch := first | omega | decide | assumption | simp [scal]) [lenA_sl lk_41, o_indexAddrS es_41, loadA_eq ia_95, za_95, sz_95, o_indexAddrS es_25, ze_25, o_buildSlice es_25 ze_25 (by decide) ba_25_1, ap_25, builtin_append ni_25, this]
theorem k49 (S : Sht r f n l) (hc : AbC cs off n l) (a : List (Nat × Nat)) (ha : ∀ p, p ∈ a → p.2 < n) (hl : a.length ≤ 1000) (rest : List Blk) :
    callH LL 49 [wh 2 a.length, cl51 1] (.cells cs 3 true own :: shB r f 0 off n c :: prB a :: rest) = some ⟨wh (rest.length + 3) a.length, .cells cs 3 true own :: shB r f 0 off n c :: prB a :: (rest ++ [iB (stpsOf l a)]), [2, 1, 0], []⟩ := by
  have e := c49 r f off n c (own := own) S hc a ha hl
  refine callH_of (by intro _; first | trivial | rfl) ?_ (by simp)
  unfold callH0
  have hp : ([wh 2 a.length, cl51 1] : List Value).flatMap (ptrV dep) = [2, 1] := rfl
  have hm : ∀ k : Nat, 20 < k → reach (.cells cs 3 true own :: shB r f 0 off n c :: prB a :: rest) 0 k [2, 1] [] = [2, 1, 0] := by
    intro k hk
    obtain ⟨k, rfl⟩ : ∃ j, k = j + 20 := ⟨k - 20, by omega⟩
    simp [reach_cons, reachC_t, reachC_f, reach_nil, rootsB, GE.mem, nblt, nbeq, ptrB, prB, ptrV_sl, ptrV_int, dep]
  simp only [hp, hm reachN (by decide)]
  simp only [prB, iB] at e ⊢
  simp [optAll, renL, renV_func, renFn, renV_ptr, dep, idx, nbeq, renB, renL_eq, renV_int, renV_sl, renV_agg, e, mergeB, nblt]
theorem k50 (S : Sht r f n l) (hc : AbC cs off n l) (hnc : n ≤ c) (rest : List Blk) : callH LL 50 [shV r f 0 off n c] (.cells cs 3 true own :: rest) = some ⟨wh (rest.length + 1) (fewS r f l n).length, .cells cs 3 true own :: (rest ++ [prB (fewS r f l n)]), [0], []⟩ :=
  callN_1 rfl rfl noIdB_flat (by simp [renV, dep, optAll, idx, nbeq]) (c50 r f off n c (own := own) S hc hnc) (by intro b hb; simp at hb; subst hb; exact prB_noId) (by simp [renV, dep, nblt])
theorem c17 (hc : AbC cs off n l) (hnc : n ≤ c) : LL.run 17 [shV r f 0 off n c] [.cells cs 3 true own] = some ⟨.tuple #[wh 1 (fewR r f n l).length, iv (chkS r f n l)], [iB (fewR r f n l)], []⟩ := by
  refine go (by decide) ?_
  rw [run17 _ _ _ (by simp)]
  have a1 := fun bx => k22 r f 0 off n c (h := .cells cs 3 true own :: bx) l rfl hc
  unfold fewR
  by_cases h : chkS r f n l = 0
  · rw [if_pos h]
    have S := chkS_zero h
    have a2 := k50 r f off n c (own := own) S hc hnc
    have a3 := k49 r f off n c (own := own) S hc (fewS r f l n) (fun p hp => (fewS_mem hp).2) (by have := fewS_len (r := r) (f := f) (l := l) (n := n); have := S.n40; omega)
    have hl : (stpsOf l (fewS r f l n)).length = (fewS r f l n).length := by simp [stpsOf]
    rw [hl]
    simp only [prB, iB] at a2 a3 ⊢
    simp (maxSteps := 1000000) (disch := first | omega | decide | assumption | simp [scal]) [loadA_eq ia_24, a1, a2, a3, h]
  · rw [if_neg h]
    simp only [iB]
    simp (maxSteps := 1000000) (disch := first | omega | decide | assumption | simp [scal]) [loadA_eq ia_24, a1, h]
end
end Go.Proofs.Ytiafgimgcbmgaaa.bl

namespace Go.Proofs.Ytiafgimgcbmgaaa.bl
open Go.GE
set_option linter.unusedVariables false
set_option linter.unusedSimpArgs false
set_option maxRecDepth 100000
set_option maxHeartbeats 4000000
attribute [local simp] runOps_nil runOps_cons runOpsF_nil runOpsF_cons fstS_some fstF_some opStep_eq want_none oStep_true oStep_false fin_pure fin_read fin_alloc fin_write storeB wrN cellV addWr o_move o_assign o_pick o_alloc o_box o_load o_store o_nilCheck o_bin o_un o_extract o_callV o_callB o_callI callV_f callV_y callV_fc o_makeFunc partsA Instr.fill builtin_len builtin_max2 bin_add bin_sub bin_mul bin_quo bin_rem bin_lss bin_leq bin_gtr bin_geq bin_eql bin_neq un_neg un_not bin_shr bin_shl wrap_u64_id opd opds optAll putO nbeq nblt constOk isC ops sub cl cr co bodyOf thenS_normal thenS_ret thenS_exit thenS_goto afterN_normal afterN_ret afterN_exit afterN_goto condS_true condS_false blockS_normal blockS_ret blockS_exit blockS_goto headS normS normK_eq fixS_nil fixS_cons fix1 fixV emptyB keepO_nil keepO_cons roundC_normal roundC_exit roundC_ret roundC_goto sweep_eq sweepD rnm pickR pickW rootsB ptrT renT ptrFn renFn ptrB_flat ptrB_non renB_flat renB_non plainS_some drawS_some fpsOk disj unord range' dropTo enumT undef wrap_i64_id Value.cells mkCells ptrTo scal cellsAt rdN endS_ret resultsA Option.bind_some tupV finish reachN dep ptrL_eq ptrL renL_eq renL ptrV_bool ptrV_int ptrV_string ptrV_nilFunc ptrV_nilIface ptrV_nilPtr ptrV_ptr ptrV_nilSl ptrV_sl ptrV_iface ptrV_agg ptrV_tuple ptrV_func renV_bool renV_int renV_string renV_nilFunc renV_nilIface renV_nilPtr renV_ptr renV_nilSl renV_sl renV_iface renV_agg renV_tuple renV_func gotoS_goto gotoS_normal gotoS_exit gotoS_ret skip_seq sliceE bnd bndHi intOf optOpd keepT_nil keepT_cons keepC_t keepC_f lk_nil lk_cons lkC_t lkC_f has_nil has_cons hasC_t hasC_f rep_nil rep_cons repC_t repC_f put_eq putC_t putC_f mem_nil mem_cons memC_t memC_f idx_nil idx_cons idxC_t idxC_f reach_nil reach_cons reachC_t reachC_f
attribute [local simp] n52_1s n52_3s n52_5s n52_7s n52_10s n52_15s n52_17s n52_18s n52_16s n52_14s n52_22s n52_27s n52_29s n52_30s n52_28s n52_26s n52_34s n52_37s n52_39s n52_40s n52_38s n52_36s n52_41s n52_35s n52_33s n52_32s n52_42s n52_31s n52_25s n52_24s n52_24g n52_23s n52_21s n52_20s n52_43s n52_19s n52_13s n52_12s n52_12g n52_11s n52_9s n52_45s n52_46s n52_44s n52_8s n52_6s n52_4s n52_2s n52_0s Try.f52 n18_1s n18_3s n18_6s n18_9s n18_10s n18_8s n18_11s n18_7s n18_5s n18_13s n18_15s n18_16s n18_14s n18_12s n18_4s n18_2s n18_0s Try.f18
theorem findL_shift {P : Nat → Bool} {first : Nat} : ∀ q i, findL P q (first + i) = if findL (fun i => P (first + i)) q i = -1 then -1 else first + findL (fun i => P (first + i)) q i := by
  intro q
  induction q with
  | zero => intro i; rfl
  | succ q ih =>
    intro i
    simp only [findL]
    split
    · rw [if_neg (by omega)]; simp
    · exact ih (i + 1)
section
variable (r f : Int) (off n c : Nat) {cs : List Value} {own : Bool} {l : Nat → Ab}
theorem l52i (S : Sht r f n l) (hc : AbC cs off n l) (k : Nat) (hk : k < n) (first : Nat) (s : List Int) (a : List (Nat × Nat)) (hs : s.length = a.length) (ha : a.length ≤ 1000) : ∀ q i : Nat, i + q = k →
    lpB Try.prog LL ⟨52, 53, 1, none⟩ n52_24 n52_25 ⟨[(1, pp 1), (4, wh 2 s.length), (5, wh 3 a.length), (6, iv first), (7, iv k), (8, iv i)], [.cells cs 3 true own, shB r f 0 off n c, iB s, prB a], []⟩ =
      if findL (fun i => needS r f (l i) (l k)) q i = -1 then some (.exit 2, ⟨[(1, pp 1), (4, wh 2 s.length), (5, wh 3 a.length), (6, iv first), (7, iv k)], [.cells cs 3 true own, shB r f 0 off n c, iB s, prB a], []⟩)
      else some (.exit 2, ⟨[(1, pp 1), (4, wh 2 (s.length + 1)), (5, wh 3 (a.length + 1)), (6, iv k), (7, iv k)], [.cells cs 3 true own, shB r f 0 off n c, iB (s ++ [(l k).h - 1]), prB (a ++ [((findL (fun i => needS r f (l i) (l k)) q i).toNat, k)])], []⟩) := by
  have hn := S.n40
  intro q
  induction q with
  | zero =>
    intro i hi
    obtain rfl : i = k := by omega
    rw [lpB_eq]
    simp (maxSteps := 1000000) (disch := first | omega | decide | assumption | simp [scal]) [o_fieldAddr fa_29_2 (by decide), loadA_eq ia_27, lenA_sl lk_27, loadA_eq ia_29, o_indexAddrS es_27, loadA_eq ia_108, o_fieldAddr fa_108_0 (by decide), loadA_eq ia_3, o_indexAddrS es_25, ze_25, o_buildSlice es_25 ze_25 (by decide) ba_25_1, ap_25, builtin_append ni_25, za_121, o_build za_121 pl_121, o_indexAddrS es_46, ze_46, o_buildSlice es_46 ze_46 (by decide) ba_46_1, ap_46, builtin_append ni_46, findL, prB_flat, prB_ren, iB_flat, iB_ren]
  | succ q ih =>
    intro i hi
    have e1 : i < k := by omega
    have e0 : i < n := by omega
    have this := ih (i + 1) (by omega)
    obtain ⟨p2, p3, p4⟩ := hc _ e0
    obtain ⟨q2, q3, q4⟩ := hc _ hk
    obtain ⟨o1, o2, _, _, _⟩ := S.ok _ hk
    have a1 := fun bx => k59 r f 0 off n c (h := .cells cs 3 true own :: bx) (cs := cs) (own := own) S.dr (l i) (S.ok i e0) (l k) (S.ok k hk) (by have := S.asc i k e1 hk; omega) rfl
    have c1 := fun h b c rd => app_list (h := h) (b := b) (c := c) (k := 1) (by' := 8) (l := s.length) (cs := s.map iv) (new := [iv ((l k).h - 1)]) (rd := rd) (by simp) (by omega) (by omega) rfl
    have c2 := fun h b c rd => app_list (h := h) (b := b) (c := c) (k := 2) (by' := 16) (l := a.length) (cs := a.flatMap prG) (new := [iv i, iv k]) (rd := rd) (prB_len a) (by omega) (by omega) rfl
    rw [lpB_eq]
    simp only [cast1] at this
    simp only [prB, iB] at this ⊢
    rcases Bool.eq_false_or_eq_true (needS r f (l i) (l k)) with w | w
    · have hne : ¬ ((i : Int) = -1) := by omega
      rw [w] at a1
      simp only [findL, w, if_true, hne, if_false, Int.toNat_natCast, List.map_append, List.map_cons, List.map_nil, List.flatMap_append, List.flatMap_cons, List.flatMap_nil, List.append_nil]
      rw [show prG (i, k) = [iv i, iv k] from rfl]
      simp (maxSteps := 1000000) (disch := first | omega | decide | assumption | simp [scal]) [o_fieldAddr fa_29_2 (by decide), loadA_eq ia_27, lenA_sl lk_27, loadA_eq ia_29, o_indexAddrS es_27, loadA_eq ia_108, o_fieldAddr fa_108_0 (by decide), loadA_eq ia_3, o_indexAddrS es_25, ze_25, o_buildSlice es_25 ze_25 (by decide) ba_25_1, ap_25, builtin_append ni_25, za_121, o_build za_121 pl_121, o_indexAddrS es_46, ze_46, o_buildSlice es_46 ze_46 (by decide) ba_46_1, ap_46, builtin_append ni_46, e0, e1, hk, p2, p3, p4, q2, q3, q4, a1, append_some ap_25, append_some ap_46, srcCells, c1, c2]
    · rw [w] at a1
      simp only [findL, w, Bool.false_eq_true, if_false]
      simp (maxSteps := 1000000) (disch := first | omega | decide | assumption | simp [scal]) [o_fieldAddr fa_29_2 (by decide), loadA_eq ia_27, lenA_sl lk_27, loadA_eq ia_29, o_indexAddrS es_27, loadA_eq ia_108, o_fieldAddr fa_108_0 (by decide), loadA_eq ia_3, o_indexAddrS es_25, ze_25, o_buildSlice es_25 ze_25 (by decide) ba_25_1, ap_25, builtin_append ni_25, za_121, o_build za_121 pl_121, o_indexAddrS es_46, ze_46, o_buildSlice es_46 ze_46 (by decide) ba_46_1, ap_46, builtin_append ni_46, e0, e1, hk, p2, p3, p4, q2, q3, q4, a1, this]
theorem l52o (S : Sht r f n l) (hc : AbC cs off n l) : ∀ q k first (a : List (Nat × Nat)), k + q = n → first ≤ k → a.length ≤ k →
    lpB Try.prog LL ⟨52, 53, 1, none⟩ n52_12 n52_13 ⟨[(1, pp 1), (4, wh 2 (stpsOf l a).length), (5, wh 3 a.length), (6, iv first), (7, iv k)], [.cells cs 3 true own, shB r f 0 off n c, iB (stpsOf l a), prB a], []⟩ =
      some (.exit 0, ⟨[(4, wh 1 (stpsOf l (fewL r f l q k first a)).length), (5, wh 2 (fewL r f l q k first a).length)], [.cells cs 3 true own, iB (stpsOf l (fewL r f l q k first a)), prB (fewL r f l q k first a)], []⟩) := by
  have hn := S.n40
  intro q
  induction q with
  | zero =>
    intro k first a hk hf ha
    obtain rfl : k = n := by omega
    rw [lpB_eq]
    simp (maxSteps := 1000000) (disch := first | omega | decide | assumption | simp [scal]) [o_fieldAddr fa_29_2 (by decide), loadA_eq ia_27, lenA_sl lk_27, loadA_eq ia_29, o_indexAddrS es_27, loadA_eq ia_108, o_fieldAddr fa_108_0 (by decide), loadA_eq ia_3, o_indexAddrS es_25, ze_25, o_buildSlice es_25 ze_25 (by decide) ba_25_1, ap_25, builtin_append ni_25, za_121, o_build za_121 pl_121, o_indexAddrS es_46, ze_46, o_buildSlice es_46 ze_46 (by decide) ba_46_1, ap_46, builtin_append ni_46, fewL, prB_flat, prB_ren, iB_flat, iB_ren]
  | succ q ih =>
    intro k first a hk hf ha
    have e1 : k < n := by omega
    have hl : (stpsOf l a).length = a.length := by simp [stpsOf]
    have a1 := l52i r f off n c (own := own) S hc k e1 first (stpsOf l a) a hl (by omega) (k - first) first (by omega)
    have hsh := findL_shift (P := fun i => needS r f (l i) (l k)) (first := first) (k - first) 0
    rw [Nat.add_zero] at hsh
    rw [lpB_eq]
    rcases findL_spec (P := fun i => needS r f (l (first + i)) (l k)) (k - first) 0 with ⟨w, _⟩ | ⟨j, w, _, w2, _⟩
    · rw [if_pos w] at hsh
      rw [if_pos hsh] at a1
      have this := ih (k + 1) first a (by omega) (by omega) (by omega)
      have hf : fewL r f l (q + 1) k first a = fewL r f l q (k + 1) first a := by simp only [fewL]; rw [if_pos w]
      rw [hf]
      simp only [cast1] at this
      simp only [prB, iB] at this a1 ⊢
      simp (maxSteps := 1000000) (disch := first | omega | decide | assumption | simp [scal]) [o_fieldAddr fa_29_2 (by decide), loadA_eq ia_27, lenA_sl lk_27, loadA_eq ia_29, o_indexAddrS es_27, loadA_eq ia_108, o_fieldAddr fa_108_0 (by decide), loadA_eq ia_3, o_indexAddrS es_25, ze_25, o_buildSlice es_25 ze_25 (by decide) ba_25_1, ap_25, builtin_append ni_25, za_121, o_build za_121 pl_121, o_indexAddrS es_46, ze_46, o_buildSlice es_46 ze_46 (by decide) ba_46_1, ap_46, builtin_append ni_46, e1, a1, this]
    · rw [if_neg (by rw [w]; omega), w] at hsh
      rw [if_neg (by rw [hsh]; omega), hsh] at a1
      have this := ih (k + 1) k (a ++ [(first + j, k)]) (by omega) (by omega) (by simp; omega)
      have hf : fewL r f l (q + 1) k first a = fewL r f l q (k + 1) k (a ++ [(first + j, k)]) := by simp only [fewL]; rw [if_neg (by rw [w]; omega), w]; rfl
      rw [hf]
      have hz : ((first : Int) + (j : Int)).toNat = first + j := by omega
      have hq : stpsOf l (a ++ [(first + j, k)]) = stpsOf l a ++ [(l k).h - 1] := by simp [stpsOf]
      rw [hq] at this
      rw [hz] at a1
      simp only [cast1, List.length_append, List.length_cons, List.length_nil, Nat.zero_add] at this
      simp only [prB, iB, List.map_append, List.map_cons, List.map_nil, List.flatMap_append, List.flatMap_cons, List.flatMap_nil, List.append_nil] at this a1 ⊢
      simp (maxSteps := 1000000) (disch := first | omega | decide | assumption | simp [scal]) [o_fieldAddr fa_29_2 (by decide), loadA_eq ia_27, lenA_sl lk_27, loadA_eq ia_29, o_indexAddrS es_27, loadA_eq ia_108, o_fieldAddr fa_108_0 (by decide), loadA_eq ia_3, o_indexAddrS es_25, ze_25, o_buildSlice es_25 ze_25 (by decide) ba_25_1, ap_25, builtin_append ni_25, za_121, o_build za_121 pl_121, o_indexAddrS es_46, ze_46, o_buildSlice es_46 ze_46 (by decide) ba_46_1, ap_46, builtin_append ni_46, e1, a1, this]
theorem c52 (S : Sht r f n l) (hc : AbC cs off n l) : LL.run 52 [shV r f 0 off n c] [.cells cs 3 true own] = some ⟨.tuple #[wh 1 (stpsOf l (fewS r f l n)).length, wh 2 (fewS r f l n).length], [iB (stpsOf l (fewS r f l n)), prB (fewS r f l n)], []⟩ := by
  refine go (by decide) ?_
  rw [run52 _ _ _ (by simp)]
  have this := l52o r f off n c (own := own) S hc n 0 0 [] (by omega) (by omega) (by simp)
  rw [← fewS] at this
  simp only [stpsOf, Int.natCast_zero, List.map_nil, List.length_nil, prB, iB, List.flatMap_nil] at this ⊢
  simp (maxSteps := 1000000) (disch := first | omega | decide | assumption | simp [scal]) [o_fieldAddr fa_29_2 (by decide), loadA_eq ia_27, lenA_sl lk_27, loadA_eq ia_29, o_indexAddrS es_27, loadA_eq ia_108, o_fieldAddr fa_108_0 (by decide), loadA_eq ia_3, o_indexAddrS es_25, ze_25, o_buildSlice es_25 ze_25 (by decide) ba_25_1, ap_25, builtin_append ni_25, za_121, o_build za_121 pl_121, o_indexAddrS es_46, ze_46, o_buildSlice es_46 ze_46 (by decide) ba_46_1, ap_46, builtin_append ni_46, this]
theorem k52 (S : Sht r f n l) (hc : AbC cs off n l) (rest : List Blk) : callH LL 52 [shV r f 0 off n c] (.cells cs 3 true own :: rest) = some ⟨.tuple #[wh (rest.length + 1) (stpsOf l (fewS r f l n)).length, wh (rest.length + 2) (fewS r f l n).length], .cells cs 3 true own :: (rest ++ [iB (stpsOf l (fewS r f l n)), prB (fewS r f l n)]), [0], []⟩ := by
  have := callN_1 (E := LL) (b := 0) (args := [shV r f 0 off n c]) (h := .cells cs 3 true own :: rest) (v' := .tuple #[wh (rest.length + 1) (stpsOf l (fewS r f l n)).length, wh (rest.length + 2) (fewS r f l n).length]) rfl rfl noIdB_flat (by simp [renV, dep, optAll, idx, nbeq]) (c52 r f off n c (own := own) S hc) (by intro b hb; simp at hb; rcases hb with rfl | rfl; exact iB_noId; exact prB_noId) (by simp [renV, dep, nblt, optAll])
  simpa using this
theorem c18 (hc : AbC cs off n l) : LL.run 18 [shV r f 0 off n c] [.cells cs 3 true own] = some ⟨.tuple #[wh 1 (fewR r f n l).length, iv (chkS r f n l)], [iB (fewR r f n l)], []⟩ := by
  refine go (by decide) ?_
  rw [run18 _ _ _ (by simp)]
  have a1 := fun bx => k23 r f 0 off n c (h := .cells cs 3 true own :: bx) l rfl hc
  unfold fewR
  by_cases h : chkS r f n l = 0
  · rw [if_pos h]
    have S := chkS_zero h
    have a2 := k52 r f off n c (own := own) S hc
    simp only [prB, iB] at a2 ⊢
    simp (maxSteps := 1000000) (disch := first | omega | decide | assumption | simp [scal]) [loadA_eq ia_29, a1, a2, h]
  · rw [if_neg h]
    simp only [iB]
    simp (maxSteps := 1000000) (disch := first | omega | decide | assumption | simp [scal]) [loadA_eq ia_29, a1, h]
end
end Go.Proofs.Ytiafgimgcbmgaaa.bl

namespace Go.Proofs.Ytiafgimgcbmgaaa.bl
open Go.GE
set_option linter.unusedVariables false
set_option linter.unusedSimpArgs false
set_option maxRecDepth 100000
set_option maxHeartbeats 4000000
attribute [local simp] runOps_nil runOps_cons runOpsF_nil runOpsF_cons fstS_some fstF_some opStep_eq want_none oStep_true oStep_false fin_pure fin_read fin_alloc fin_write storeB wrN cellV addWr o_move o_assign o_pick o_alloc o_box o_load o_store o_nilCheck o_bin o_un o_extract o_callV o_callB o_callI callV_f callV_y callV_fc o_makeFunc partsA Instr.fill builtin_len builtin_max2 bin_add bin_sub bin_mul bin_quo bin_rem bin_lss bin_leq bin_gtr bin_geq bin_eql bin_neq un_neg un_not bin_shr bin_shl wrap_u64_id opd opds optAll putO nbeq nblt constOk isC ops sub cl cr co bodyOf thenS_normal thenS_ret thenS_exit thenS_goto afterN_normal afterN_ret afterN_exit afterN_goto condS_true condS_false blockS_normal blockS_ret blockS_exit blockS_goto headS normS normK_eq fixS_nil fixS_cons fix1 fixV emptyB keepO_nil keepO_cons roundC_normal roundC_exit roundC_ret roundC_goto sweep_eq sweepD rnm pickR pickW rootsB ptrT renT ptrFn renFn ptrB_flat ptrB_non renB_flat renB_non plainS_some drawS_some fpsOk disj unord range' dropTo enumT undef wrap_i64_id Value.cells mkCells ptrTo scal cellsAt rdN endS_ret resultsA Option.bind_some tupV finish reachN dep ptrL_eq ptrL renL_eq renL ptrV_bool ptrV_int ptrV_string ptrV_nilFunc ptrV_nilIface ptrV_nilPtr ptrV_ptr ptrV_nilSl ptrV_sl ptrV_iface ptrV_agg ptrV_tuple ptrV_func renV_bool renV_int renV_string renV_nilFunc renV_nilIface renV_nilPtr renV_ptr renV_nilSl renV_sl renV_iface renV_agg renV_tuple renV_func gotoS_goto gotoS_normal gotoS_exit gotoS_ret skip_seq sliceE bnd bndHi intOf optOpd keepT_nil keepT_cons keepC_t keepC_f lk_nil lk_cons lkC_t lkC_f has_nil has_cons hasC_t hasC_f rep_nil rep_cons repC_t repC_f put_eq putC_t putC_f mem_nil mem_cons memC_t memC_f idx_nil idx_cons idxC_t idxC_f reach_nil reach_cons reachC_t reachC_f
attribute [local simp] n19_1s n19_4s n19_7s n19_8s n19_6s n19_9s n19_5s n19_3s n19_12s n19_17s n19_19s n19_20s n19_18s n19_16s n19_24s n19_27s n19_28s n19_26s n19_29s n19_25s n19_23s n19_22s n19_30s n19_21s n19_15s n19_14s n19_14g n19_13s n19_11s n19_32s n19_33s n19_31s n19_10s n19_2s n19_0s Try.f19 n16_1s n16_3s n16_6s n16_11s n16_13s n16_14s n16_12s n16_10s n16_17s n16_16s n16_18s n16_15s n16_9s n16_8s n16_8g n16_7s n16_5s n16_20s n16_21s n16_19s n16_4s n16_2s n16_0s Try.f16
theorem neq_any {x y : List Int} (h : x.length = y.length) : (!anyF (fun i => !decide (x.getD i 0 = y.getD i 0)) x.length 0) = decide (x = y) := by
  apply Bool.eq_iff_iff.2
  rw [Bool.not_eq_true', ← Bool.not_eq_true, anyF_iff, decide_eq_true_eq]
  constructor
  · intro hn
    apply List.ext_getElem h
    intro i h1 h2
    apply Classical.byContradiction
    intro hne
    refine hn ⟨i, by omega, by omega, ?_⟩
    simp only [List.getD_eq_getElem?_getD, List.getElem?_eq_getElem h1, List.getElem?_eq_getElem h2, Option.getD_some]
    simpa using hne
  · rintro rfl ⟨i, _, _, hi⟩
    simp at hi
theorem iB_get {x : List Int} {i : Nat} (h : i < x.length) : (x.map iv)[i]? = some (iv (x.getD i 0)) := by simp [h]
theorem l19 (x y : List Int) (hl : x.length = y.length) (hx : x.length ≤ 1000) : ∀ q i : Nat, i + q = x.length →
    lpB Try.prog LL ⟨19, 26, 2, none⟩ n19_14 n19_15 ⟨[(0, wh 0 x.length), (1, wh 1 y.length), (5, iv i)], [iB x, iB y], []⟩ =
      if anyF (fun i => !decide (x.getD i 0 = y.getD i 0)) q i then some (.ret, ⟨[(4, .bool false)], [iB x, iB y], []⟩) else some (.exit 0, ⟨[], [iB x, iB y], []⟩) := by
  intro q
  induction q with
  | zero =>
    intro i hi
    obtain rfl : i = x.length := by omega
    rw [lpB_eq]
    simp (maxSteps := 1000000) (disch := first | omega | decide | assumption | simp [scal]) [lenA_sl lk_25, o_indexAddrS es_25, loadA_eq ia_3, anyF, iB]
  | succ q ih =>
    intro i hi
    have e1 : i < x.length := by omega
    have e2 : i < y.length := by omega
    have this := ih (i + 1) (by omega)
    have g1 := iB_get e1
    have g2 := iB_get e2
    simp only [cast1] at this
    rw [lpB_eq]
    by_cases w : x.getD i 0 = y.getD i 0
    · have hb : anyF (fun i => !decide (x.getD i 0 = y.getD i 0)) (q + 1) i = anyF (fun i => !decide (x.getD i 0 = y.getD i 0)) q (i + 1) := by simp only [anyF]; rw [decide_eq_true w]; rfl
      rw [hb]
      generalize x.getD i 0 = u at *
      generalize y.getD i 0 = v at *
      subst w
      simp only [iB] at this ⊢
      simp (maxSteps := 1000000) (disch := first | omega | decide | assumption | simp [scal]) [lenA_sl lk_25, o_indexAddrS es_25, loadA_eq ia_3, e1, e2, g1, g2, this]
    · have hb : anyF (fun i => !decide (x.getD i 0 = y.getD i 0)) (q + 1) i = true := by simp only [anyF]; rw [decide_eq_false w]; rfl
      rw [hb]
      generalize x.getD i 0 = u at *
      generalize y.getD i 0 = v at *
      simp only [iB] at this ⊢
      simp (maxSteps := 1000000) (disch := first | omega | decide | assumption | simp [scal]) [lenA_sl lk_25, o_indexAddrS es_25, loadA_eq ia_3, e1, e2, g1, g2, w]
theorem c19 (x y : List Int) (hx : x.length ≤ 1000) : LL.run 19 [wh 0 x.length, wh 1 y.length] [iB x, iB y] = some ⟨.bool (decide (x = y)), [], []⟩ := by
  refine go (by decide) ?_
  rw [run19 _ _ _ (by simp)]
  by_cases hl : x.length = y.length
  · have this := l19 x y hl hx x.length 0 (by omega)
    have hl' : (x.length : Int) = y.length := by rw [hl]
    rw [← neq_any hl]
    simp only [Int.natCast_zero] at this
    rcases Bool.eq_false_or_eq_true (anyF (fun i => !decide (x.getD i 0 = y.getD i 0)) x.length 0) with w | w
    · rw [w] at this ⊢
      simp only [if_true, iB] at this ⊢
      simp (maxSteps := 1000000) (disch := first | omega | decide | assumption | simp [scal]) [lenA_sl lk_25, o_indexAddrS es_25, loadA_eq ia_3, eq_true hl', this]
    · rw [w] at this ⊢
      simp only [Bool.false_eq_true, if_false, iB] at this ⊢
      simp (maxSteps := 1000000) (disch := first | omega | decide | assumption | simp [scal]) [lenA_sl lk_25, o_indexAddrS es_25, loadA_eq ia_3, eq_true hl', this]
  · have hl' : ¬ (x.length : Int) = y.length := by omega
    rw [decide_eq_false (fun e => hl (by rw [e]))]
    simp only [iB]
    simp (maxSteps := 1000000) (disch := first | omega | decide | assumption | simp [scal]) [lenA_sl lk_25, o_indexAddrS es_25, loadA_eq ia_3, hl']
theorem k19 (x y : List Int) (hx : x.length ≤ 1000) {b1 b2 : Nat} {h : List Blk} (h1 : h[b1]? = some (iB x)) (h2 : h[b2]? = some (iB y)) (hne : b1 ≠ b2) : callH LL 19 [wh b1 x.length, wh b2 y.length] h = some ⟨.bool (decide (x = y)), h, [b1, b2], []⟩ :=
  callH_2 rfl h1 h2 hne iB_noId iB_noId (args' := [wh 0 x.length, wh 1 y.length]) (by simp [renV, dep, optAll, idx, nbeq, hne, hne.symm]) (c19 x y hx) fun _ => rfl
def abG (a : Ab) : List Value := [iv a.h, iv a.lo, iv a.hi]
/-- the first i absolutes as a block of their own -/
def abL (l : Nat → Ab) (i : Nat) : Blk := .cells ((List.range i).flatMap fun j => abG (l j)) 3 true true
theorem abL_len (l : Nat → Ab) (i : Nat) : ((List.range i).flatMap fun j => abG (l j)).length = i * 3 := by
  have := flat_len (g := fun j => abG (l j)) (k := 3) (fun _ => rfl) (l := List.range i); simpa using this
theorem abL_C (l : Nat → Ab) (n : Nat) : AbC ((List.range n).flatMap fun j => abG (l j)) 0 n l := by
  intro i hi
  have h : (List.range n)[i]? = some i := by simp [hi]
  refine ⟨?_, ?_, ?_⟩
  · have := flat_get (g := fun j => abG (l j)) (k := 3) (fun _ => rfl) h (j := 0) (by omega); simpa [abG] using this
  · have := flat_get (g := fun j => abG (l j)) (k := 3) (fun _ => rfl) h (j := 1) (by omega); simpa [abG] using this
  · have := flat_get (g := fun j => abG (l j)) (k := 3) (fun _ => rfl) h (j := 2) (by omega); simpa [abG] using this
section
variable (r f : Int) (off n c : Nat) {cs : List Value} {own : Bool} {l : Nat → Ab}
theorem l16 (hc : AbC cs off n l) (hn : n ≤ 1000) : ∀ q i : Nat, i + q = n →
    lpB Try.prog LL ⟨16, 28, 1, none⟩ n16_8 n16_9 ⟨[(1, pp 1), (2, pp 2), (3, pp 4), (4, iv i)], [.cells cs 3 true own, shB r f 0 off n c, shB 0 0 3 0 0 0, E3, shB r f 5 0 i i, abL l i], []⟩ =
      some (.exit 0, ⟨[(2, pp 1), (3, pp 3)], [.cells cs 3 true own, shB 0 0 2 0 0 0, E3, shB r f 4 0 n n, abL l n], []⟩) := by
  intro q
  induction q with
  | zero =>
    intro i hi
    obtain rfl : i = n := by omega
    rw [lpB_eq]
    simp only [abL]
    simp (maxSteps := 1000000) (disch := first | omega | decide | assumption | simp [scal]) [za_29, o_fieldAddr fa_24_0 (by decide), loadA_eq ia_3, o_fieldAddr fa_24_1 (by decide), o_build za_29 pl_29, sz_29, o_fieldAddr fa_24_2 (by decide), loadA_eq ia_22, lenA_sl lk_22, o_fieldAddr fa_29_2 (by decide), loadA_eq ia_27, o_indexAddrS es_22, loadA_eq ia_59, o_indexAddrS es_27, ze_27, o_buildSlice es_27 ze_27 (by decide) ba_27_1, ap_27, builtin_append ni_27, sz_27, loadA_eq ia_29]
  | succ q ih =>
    intro i hi
    have e1 : i < n := by omega
    have this := ih (i + 1) (by omega)
    obtain ⟨p2, p3, p4⟩ := hc _ e1
    have c1 := fun h b c rd => app_list (h := h) (b := b) (c := c) (k := 3) (by' := 24) (l := i) (cs := (List.range i).flatMap fun j => abG (l j)) (new := abG (l i)) (rd := rd) (abL_len l i) (by omega) (by omega) rfl
    rw [lpB_eq]
    simp only [cast1, abL, List.range_succ, List.flatMap_append, List.flatMap_cons, List.flatMap_nil, List.append_nil] at this ⊢
    rw [show abG (l i) = [iv (l i).h, iv (l i).lo, iv (l i).hi] from rfl] at this c1
    simp (maxSteps := 1000000) (disch := first | omega | decide | assumption | simp [scal]) [za_29, o_fieldAddr fa_24_0 (by decide), loadA_eq ia_3, o_fieldAddr fa_24_1 (by decide), o_build za_29 pl_29, sz_29, o_fieldAddr fa_24_2 (by decide), loadA_eq ia_22, lenA_sl lk_22, o_fieldAddr fa_29_2 (by decide), loadA_eq ia_27, o_indexAddrS es_22, loadA_eq ia_59, o_indexAddrS es_27, ze_27, o_buildSlice es_27 ze_27 (by decide) ba_27_1, ap_27, builtin_append ni_27, sz_27, loadA_eq ia_29, e1, p2, p3, p4, append_some ap_27, srcCells, c1, this]
theorem c16 (hc : AbC cs off n l) (hn : n ≤ 1000) : LL.run 16 [shV r f 0 off n c] [.cells cs 3 true own] = some ⟨shV r f 1 0 n n, [abL l n], []⟩ := by
  refine go (by decide) ?_
  rw [run16 _ _ _ (by simp)]
  have this := l16 r f off n c (own := own) hc hn n 0 (by omega)
  simp only [Int.natCast_zero, abL, List.range_zero, List.flatMap_nil] at this ⊢
  simp (maxSteps := 1000000) (disch := first | omega | decide | assumption | simp [scal]) [za_29, o_fieldAddr fa_24_0 (by decide), loadA_eq ia_3, o_fieldAddr fa_24_1 (by decide), o_build za_29 pl_29, sz_29, o_fieldAddr fa_24_2 (by decide), loadA_eq ia_22, lenA_sl lk_22, o_fieldAddr fa_29_2 (by decide), loadA_eq ia_27, o_indexAddrS es_22, loadA_eq ia_59, o_indexAddrS es_27, ze_27, o_buildSlice es_27 ze_27 (by decide) ba_27_1, ap_27, builtin_append ni_27, sz_27, loadA_eq ia_29, this]
end
end Go.Proofs.Ytiafgimgcbmgaaa.bl

namespace Go.Proofs.Ytiafgimgcbmgaaa.bl
open Go.GE
set_option linter.unusedVariables false
set_option linter.unusedSimpArgs false
set_option maxRecDepth 100000
set_option maxHeartbeats 4000000
attribute [local simp] runOps_nil runOps_cons runOpsF_nil runOpsF_cons fstS_some fstF_some opStep_eq want_none oStep_true oStep_false fin_pure fin_read fin_alloc fin_write storeB wrN cellV addWr o_move o_assign o_pick o_alloc o_box o_load o_store o_nilCheck o_bin o_un o_extract o_callV o_callB o_callI callV_f callV_y callV_fc o_makeFunc partsA Instr.fill builtin_len builtin_max2 bin_add bin_sub bin_mul bin_quo bin_rem bin_lss bin_leq bin_gtr bin_geq bin_eql bin_neq un_neg un_not bin_shr bin_shl wrap_u64_id opd opds optAll putO nbeq nblt constOk isC ops sub cl cr co bodyOf thenS_normal thenS_ret thenS_exit thenS_goto afterN_normal afterN_ret afterN_exit afterN_goto condS_true condS_false blockS_normal blockS_ret blockS_exit blockS_goto headS normS normK_eq fixS_nil fixS_cons fix1 fixV emptyB keepO_nil keepO_cons roundC_normal roundC_exit roundC_ret roundC_goto sweep_eq sweepD rnm pickR pickW rootsB ptrT renT ptrFn renFn ptrB_flat ptrB_non renB_flat renB_non plainS_some drawS_some fpsOk disj unord range' dropTo enumT undef wrap_i64_id Value.cells mkCells ptrTo scal cellsAt rdN endS_ret resultsA Option.bind_some tupV finish reachN dep ptrL_eq ptrL renL_eq renL ptrV_bool ptrV_int ptrV_string ptrV_nilFunc ptrV_nilIface ptrV_nilPtr ptrV_ptr ptrV_nilSl ptrV_sl ptrV_iface ptrV_agg ptrV_tuple ptrV_func renV_bool renV_int renV_string renV_nilFunc renV_nilIface renV_nilPtr renV_ptr renV_nilSl renV_sl renV_iface renV_agg renV_tuple renV_func gotoS_goto gotoS_normal gotoS_exit gotoS_ret skip_seq sliceE bnd bndHi intOf optOpd keepT_nil keepT_cons keepC_t keepC_f lk_nil lk_cons lkC_t lkC_f has_nil has_cons hasC_t hasC_f rep_nil rep_cons repC_t repC_f put_eq putC_t putC_f mem_nil mem_cons memC_t memC_f idx_nil idx_cons idxC_t idxC_f reach_nil reach_cons reachC_t reachC_f
attribute [local simp] n3_1s n3_4s n3_7s n3_8s n3_6s n3_9s n3_5s n3_3s n3_11s n3_13s n3_15s n3_17s n3_18s n3_16s n3_14s n3_12s n3_10s n3_2s n3_0s Try.f3
theorem k15 (h : List Blk) : callH LL 15 [] h = some ⟨.bool true, h, [], []⟩ := callH_plain (L_tab rfl) rfl rfl
section
variable (r f : Int) (b off n c : Nat) {cs : List Value} {own : Bool} {l : Nat → Ab} {h : List Blk}
theorem k16 (hb : h[b]? = some (.cells cs 3 true own)) (hc : AbC cs off n l) (hn : n ≤ 1000) : callH LL 16 [shV r f b off n c] h = some ⟨shV r f h.length 0 n n, h ++ [abL l n], [b], []⟩ :=
  callN_1 rfl hb noIdB_flat (sh_ren r f b off n c) (c16 r f off n c (own := own) hc hn) (by intro b hb; simp at hb; subst hb; exact noIdB_flat) (by simp [renV, dep, nblt, optAll])
theorem k17 (hb : h[b]? = some (.cells cs 3 true own)) (hc : AbC cs off n l) (hnc : n ≤ c) : callH LL 17 [shV r f b off n c] h = some ⟨.tuple #[wh h.length (fewR r f n l).length, iv (chkS r f n l)], h ++ [iB (fewR r f n l)], [b], []⟩ :=
  callN_1 rfl hb noIdB_flat (sh_ren r f b off n c) (c17 r f off n c (own := own) hc hnc) (by intro b hb; simp at hb; subst hb; exact iB_noId) (by simp [renV, dep, nblt, optAll])
theorem k18 (hb : h[b]? = some (.cells cs 3 true own)) (hc : AbC cs off n l) : callH LL 18 [shV r f b off n c] h = some ⟨.tuple #[wh h.length (fewR r f n l).length, iv (chkS r f n l)], h ++ [iB (fewR r f n l)], [b], []⟩ :=
  callN_1 rfl hb noIdB_flat (sh_ren r f b off n c) (c18 r f off n c (own := own) hc) (by intro b hb; simp at hb; subst hb; exact iB_noId) (by simp [renV, dep, nblt, optAll])
end
theorem fewR_len {r f : Int} {n : Nat} {l : Nat → Ab} (hn : n ≤ 60) : (fewR r f n l).length ≤ 60 := by
  unfold fewR
  split
  · have := fewS_len (r := r) (f := f) (l := l) (n := n); simp [stpsOf]; omega
  · simp
section
variable (r f : Int) (off n c off2 m c2 : Nat) {cs cs2 : List Value} {own own2 : Bool} {l : Nat → Ab} {st : Nat → Int}
theorem c3 (hc : AbC cs off n l) (hnc : n ≤ c) (hc2 : IvC cs2 off2 m st) : LL.run 3 [shV r f 0 off n c, stV 1 off2 m c2] [.cells cs 3 true own, .cells cs2 1 true own2] = some ⟨.bool true, [], []⟩ := by
  refine go (by decide) ?_
  rw [run3 _ _ _ (by simp)]
  by_cases h1 : 60 < n
  · have h1' : (60 : Int) < n := by omega
    simp (maxSteps := 1000000) (disch := first | omega | decide | assumption | simp [scal]) [o_fieldAddr fa_24_2 (by decide), loadA_eq ia_22, lenA_sl lk_22, lenA_sl lk_25, loadA_eq ia_24, za_29, sz_29, loadA_eq ia_29, want_some q3_4g4, want_some q3_17g3, want_some q3_17g8, want_some q3_17g17, want_some q3_17g24, k15, h1, h1']
  have h1' : ¬ (60 : Int) < n := by omega
  by_cases h2 : 60 < m
  · have h2' : (60 : Int) < m := by omega
    simp (maxSteps := 1000000) (disch := first | omega | decide | assumption | simp [scal]) [o_fieldAddr fa_24_2 (by decide), loadA_eq ia_22, lenA_sl lk_22, lenA_sl lk_25, loadA_eq ia_24, za_29, sz_29, loadA_eq ia_29, want_some q3_4g4, want_some q3_17g3, want_some q3_17g8, want_some q3_17g17, want_some q3_17g24, k15, h1, h1', h2, h2']
  have h2' : ¬ (60 : Int) < m := by omega
  have a0 := fun bx => k16 r f 0 off n c (l := l) (h := .cells cs 3 true own :: bx) rfl hc (by omega)
  have a1 := fun bx => k17 r f 0 off n c (l := l) (h := .cells cs 3 true own :: bx) rfl hc hnc
  have hA := abL_C l n
  have a2 := fun b1 b2 b3 bx => k18 r f 3 0 n n (l := l) (h := b1 :: b2 :: b3 :: abL l n :: bx) (own := true) rfl hA
  have a3 := fun b0 b1 b2 b3 b4 bx => k19 (fewR r f n l) (fewR r f n l) (by have := fewR_len (r := r) (f := f) (l := l) (n := n) (by omega); omega) (b1 := 5) (b2 := 6) (h := b0 :: b1 :: b2 :: b3 :: b4 :: iB (fewR r f n l) :: iB (fewR r f n l) :: bx) rfl rfl (by decide)
  have a4 := fun bx => k20 r f 0 off n c 1 off2 m c2 (h := .cells cs 3 true own :: .cells cs2 1 true own2 :: bx) rfl rfl (by decide) hc hc2
  have a5 := fun b2 bx => k21 r f 3 0 n n 1 off2 m c2 (l := l) (st := st) (h := .cells cs 3 true own :: .cells cs2 1 true own2 :: b2 :: abL l n :: bx) (own := true) rfl rfl (by decide) hA hc2
  have a6 := fun bx => k22 r f 0 off n c (h := .cells cs 3 true own :: bx) l rfl hc
  have a7 := fun b1 b2 b3 bx => k23 r f 3 0 n n (h := b1 :: b2 :: b3 :: abL l n :: bx) (own := true) l rfl hA
  simp only [decide_true] at a3
  simp only [abL, iB] at a0 a1 a2 a3 a5 a7
  simp (maxSteps := 1000000) (disch := first | omega | decide | assumption | simp [scal]) [o_fieldAddr fa_24_2 (by decide), loadA_eq ia_22, lenA_sl lk_22, lenA_sl lk_25, loadA_eq ia_24, za_29, sz_29, loadA_eq ia_29, want_some q3_4g4, want_some q3_17g3, want_some q3_17g8, want_some q3_17g17, want_some q3_17g24, k15, h1, h1', h2, h2', a0, a1, a2, a3, a4, a5, a6, a7]
end
end Go.Proofs.Ytiafgimgcbmgaaa.bl

namespace Go.Proofs.Ytiafgimgcbmgaaa.bl
open Go.GE Go.ChangeShapes Go.WideShapes Go.RowKit
set_option linter.unusedVariables false
set_option linter.unusedSimpArgs false
set_option maxRecDepth 100000
set_option maxHeartbeats 4000000
def abOf (z : List Int) : Ab := ⟨z.getD 0 0, z.getD 1 0, z.getD 2 0⟩
def abAt (L : List Ab) (i : Nat) : Ab := L.getD i ⟨0, 0, 0⟩
def hdOf (z : List Int) : Int := z.getD 0 0
def inAt (x : List Int) (i : Nat) : Int := x.getD i 0
theorem ab_flat {zs : List (List Int)} (h : ∀ z ∈ zs, wfs [.i64, .i64, .i64] z) : zs.flatMap (ints [.i64, .i64, .i64]) = (zs.map abOf).flatMap abG := by
  induction zs with
  | nil => rfl
  | cons z zs ih =>
    have h1 := (h z (by simp)).1
    match z, h1 with
    | [a, b, c], _ => rw [List.flatMap_cons, List.map_cons, List.flatMap_cons, ih fun z hz => h z (by simp [hz])]; rfl
theorem in_flat {zs : List (List Int)} (h : ∀ z ∈ zs, wfs [.i64] z) : zs.flatMap (ints [.i64]) = (zs.map hdOf).map iv := by
  induction zs with
  | nil => rfl
  | cons z zs ih =>
    have h1 := (h z (by simp)).1
    match z, h1 with
    | [a], _ => rw [List.flatMap_cons, List.map_cons, List.map_cons, ih fun z hz => h z (by simp [hz])]; rfl
theorem abAt_C (L : List Ab) : AbC (L.flatMap abG) 0 L.length (abAt L) := by
  intro i hi
  have h : L[i]? = some (abAt L i) := by simp [abAt, hi]
  refine ⟨?_, ?_, ?_⟩
  · have := flat_get (g := abG) (k := 3) (fun _ => rfl) h (j := 0) (by omega); simpa [abG] using this
  · have := flat_get (g := abG) (k := 3) (fun _ => rfl) h (j := 1) (by omega); simpa [abG] using this
  · have := flat_get (g := abG) (k := 3) (fun _ => rfl) h (j := 2) (by omega); simpa [abG] using this
theorem inAt_C (x : List Int) : IvC (x.map iv) 0 x.length (inAt x) := by
  intro i hi
  simp [inAt, hi]
section
variable {H : Type} {enc : TypeId × Value → H} {W : World} {base b0 : Nat} {v : Value} {d : DataW H} {p : List MemPlace}
/-- a sheet as it is handed over -/
theorem open_sheet (hv : Value.okWide Try.prog W .any b0 24 v) (hd : DataW.Trod enc Try.prog W base (fun _ => true) true 24 v d p) :
    ∃ (r f : Int) (L : List Ab) (mb : Option MB), WinO W mb (.cells (L.flatMap abG) 3 true false) ∧ ∀ (m : Mp) b, m b = mb → VR m (shV r f b 0 L.length L.length) v := by
  obtain ⟨c0, c1, c2, y0, y1, y2, n, rfl, _, _, t0, t1, t2⟩ := Joins.open_agg3 Try.underlying24 (by kernel_rfl) (by kernel_rfl) hv hd
  obtain ⟨r, e0, _, _⟩ := DataW.trod_int Try.underlying3 t0
  obtain ⟨f, e1, _, _⟩ := DataW.trod_int Try.underlying3 t1
  cases e0; cases e1
  have hc : Cell.okWide Try.prog W .any b0 22 c2 := okWide_cell (ts := [3, 3, 22]) Try.underlying24 (by kernel_rfl) hv 2 (by decide) c2 rfl
  obtain ⟨zs, mb, hw, hvr, hz, _⟩ := open_slice_flat (ks := [.i64, .i64, .i64]) (d := 5) Try.underlying22 (by kernel_rfl) (by kernel_rfl) (by decide) hc t2
  rw [ab_flat hz] at hw
  refine ⟨r, f, zs.map abOf, mb, hw, fun m b hm => ?_⟩
  rw [List.length_map]
  exact .agg (.cons (.int _ _) (.cons (.int _ _) (.cons (hvr m b hm) .nil)))
/-- integers as they are handed over -/
theorem open_nums (hv : Value.okWide Try.prog W .any b0 25 v) (hd : DataW.Trod enc Try.prog W base (fun _ => true) true 25 v d p) :
    ∃ (x : List Int) (mb : Option MB), WinO W mb (.cells (x.map iv) 1 true false) ∧ ∀ (m : Mp) b, m b = mb → VR m (stV b 0 x.length x.length) v := by
  obtain ⟨zs, mb, hw, hvr, hz, _⟩ := open_param_flat (ks := [.i64]) (d := 3) Try.underlying25 (by kernel_rfl) (by kernel_rfl) (by decide) hv hd
  rw [in_flat hz] at hw
  refine ⟨zs.map hdOf, mb, hw, fun m b hm => ?_⟩
  rw [List.length_map]
  exact hvr m b hm
end
end Go.Proofs.Ytiafgimgcbmgaaa.bl

