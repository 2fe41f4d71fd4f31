/-
  Contracts of functions of the program at the limit evaluator. No condition.
-/
import Derived.Test.YtiafgimgcbmgaaaMC
namespace Go.Proofs.Ytiafgimgcbmgaaa.bl
open Go.GE
set_option linter.unusedVariables false
set_option linter.unusedSimpArgs false
set_option maxRecDepth 100000
set_option maxHeartbeats 4000000
attribute [local simp] runOps_nil runOps_cons runOpsF_nil runOpsF_cons fstS_some fstF_some opStep_eq want_none oStep_true oStep_false fin_pure fin_read fin_alloc fin_write storeB wrN cellV addWr o_move o_assign o_pick o_alloc o_box o_load o_store o_nilCheck o_bin o_un o_extract o_callV o_callB o_callI callV_f callV_y callV_fc o_makeFunc partsA Instr.fill builtin_len builtin_max2 bin_add bin_sub bin_mul bin_quo bin_rem bin_lss bin_leq bin_gtr bin_geq bin_eql bin_neq un_neg un_not bin_shr bin_shl wrap_u64_id opd opds optAll putO nbeq nblt constOk isC ops sub cl cr co bodyOf thenS_normal thenS_ret thenS_exit thenS_goto afterN_normal afterN_ret afterN_exit afterN_goto condS_true condS_false blockS_normal blockS_ret blockS_exit blockS_goto headS normS normK_eq fixS_nil fixS_cons fix1 fixV emptyB keepO_nil keepO_cons roundC_normal roundC_exit roundC_ret roundC_goto sweep_eq sweepD rnm pickR pickW rootsB ptrT renT ptrFn renFn ptrB_flat ptrB_non renB_flat renB_non plainS_some drawS_some fpsOk disj unord range' dropTo enumT undef wrap_i64_id Value.cells mkCells ptrTo scal cellsAt rdN endS_ret resultsA Option.bind_some tupV finish reachN dep ptrL_eq ptrL renL_eq renL ptrV_bool ptrV_int ptrV_string ptrV_nilFunc ptrV_nilIface ptrV_nilPtr ptrV_ptr ptrV_nilSl ptrV_sl ptrV_iface ptrV_agg ptrV_tuple ptrV_func renV_bool renV_int renV_string renV_nilFunc renV_nilIface renV_nilPtr renV_ptr renV_nilSl renV_sl renV_iface renV_agg renV_tuple renV_func gotoS_goto gotoS_normal gotoS_exit gotoS_ret skip_seq sliceE bnd bndHi intOf optOpd keepT_nil keepT_cons keepC_t keepC_f lk_nil lk_cons lkC_t lkC_f has_nil has_cons hasC_t hasC_f rep_nil rep_cons repC_t repC_f put_eq putC_t putC_f mem_nil mem_cons memC_t memC_f idx_nil idx_cons idxC_t idxC_f reach_nil reach_cons reachC_t reachC_f
attribute [local simp] n86_1s n86_4s n86_6s n86_7s n86_5s n86_3s n86_8s n86_2s n86_0s Try.f86 n61_1s n61_3s n61_5s n61_8s n61_11s n61_13s n61_12s n61_9s n61_7s n61_15s n61_16s n61_14s n61_6s n61_4s n61_2s n61_0s Try.f61
theorem builtin_min2 {P : Program} {h : List Blk} {ts : List TypeId} {k k' : IntKind} {a b : Int} : builtinA P h .min ts [.int k a, .int k' b] = pureR h (.int k (if b < a then b else a)) := by
  cases ts <;> rfl
/-- values that are cut: from, to, known -/
abbrev Lim := Int × Int × Bool
def limB (p : Lim) : Blk := .cells [iv p.1, iv p.2.1, .bool p.2.2] 1 true true
def vStep (p : Lim) (lo hi : Int) : Lim := if p.2.2 then (if p.1 < lo then lo else p.1, if hi < p.2.1 then hi else p.2.1, true) else (lo, hi, true)
theorem c86 (p : Lim) (lo hi : Int) : LL.run 86 [pp 0, .agg #[iv lo, iv hi]] [limB p] = some ⟨.tuple #[], [], [(0, limB (vStep p lo hi))]⟩ := by
  refine go (by decide) ?_
  rw [run86 _ _ _ (by simp)]
  obtain ⟨a, b, k⟩ := p
  cases k
  · simp only [limB, vStep]
    simp (maxSteps := 1000000) (disch := first | omega | decide | assumption | simp [scal]) [o_fieldAddr fa_127_1 (by decide), loadA_eq ia_4, o_fieldAddr fa_127_0 (by decide), o_fieldAddr fa_57_0 (by decide), loadA_eq ia_3, o_fieldAddr fa_57_1 (by decide), za_57, o_build za_57 pl_57, sz_57, loadA_eq ia_57, sz_4, endS_normal, addWr, ins]
  · simp only [limB, vStep]
    by_cases h1 : a < lo <;> by_cases h2 : hi < b <;>
    simp (maxSteps := 1000000) (disch := first | omega | decide | assumption | simp [scal]) [o_fieldAddr fa_127_1 (by decide), loadA_eq ia_4, o_fieldAddr fa_127_0 (by decide), o_fieldAddr fa_57_0 (by decide), loadA_eq ia_3, o_fieldAddr fa_57_1 (by decide), za_57, o_build za_57 pl_57, sz_57, loadA_eq ia_57, sz_4, endS_normal, addWr, ins, builtin_min2, h1, h2]
theorem k86 (p : Lim) (lo hi : Int) {b : Nat} {h : List Blk} (hb : h[b]? = some (limB p)) : callH LL 86 [pp b, .agg #[iv lo, iv hi]] h = some ⟨.tuple #[], h.set b (limB (vStep p lo hi)), [b], [b]⟩ := by
  have e := c86 p lo hi
  refine callH_of (by intro _; first | trivial | rfl) ?_ (by simpa using (List.getElem?_eq_some_iff.1 hb).1)
  unfold callH0
  have hp : ([pp b, .agg #[iv lo, iv hi]] : List Value).flatMap (ptrV dep) = [b] := rfl
  rw [hp, reach_one hb rfl (by decide)]
  have hr : optAll (renV (idx [b]) dep) [pp b, .agg #[iv lo, iv hi]] = some [pp 0, .agg #[iv lo, iv hi]] := by simp [renV, dep, optAll, idx, nbeq]
  simp only [hr]
  have hl : ∀ q g, renB g (limB q) = some (limB q) := fun _ _ => rfl
  simp [optAll, hb, hl, e, mergeB, renV_tuple, renL, dep]
noncomputable def lp61 (a b d : Nat) : ALoop := ⟨.ready, none, 61, [(6, pp a), (3, pp b), (2, pp d)], 25, #[15, 16], n61_11, n61_12⟩
abbrev fc86 (b : Nat) : Blk := .cells [.func (.func 86) #[pp b] #[]] 1 false true
section
variable (r f : Int) (off n c off2 m c2 : Nat) (cs cs2 : List Value) (own own2 : Bool) (x : Int)
theorem r61 (D : Dr r f) (a : Ab) (A : OkA a) (x0 : 0 ≤ x) (x1 : x ≤ 10000) (i : Nat) (p : Lim) :
    LL.rnd 0 [iv i, abV a] [.loop (lp61 1 3 4), fc86 2, limB p, c1 x, ptB r f 5 off n c 6 off2 m c2, .cells cs 3 true own, .cells cs2 1 true own2] =
      some ⟨.bool true, [], [(0, .loop (lp61 1 3 4)), (2, limB (vStep p (arLo r f a x) (arHi r f a x)))]⟩ := by
  have hk := fun b0 b1 b2 b3 b4 bx => k85 r f 5 off n c (h := b0 :: b1 :: b2 :: b3 :: b4 :: .cells cs 3 true own :: bx) (cs := cs) (own := own) D a A x x0 x1 rfl
  have hq := fun b0 b1 bx => k86 p (arLo r f a x) (arHi r f a x) (b := 2) (h := b0 :: b1 :: limB p :: bx) rfl
  generalize vStep p (arLo r f a x) (arHi r f a x) = q at *
  generalize arLo r f a x = lo at *
  generalize arHi r f a x = hi at *
  obtain ⟨ah, al, au⟩ := a
  rw [show LL = L Try.prog (wk.wtab.keep kpT) from rfl, L_rnd_eq]
  have e1 : codeB Try.prog LL ⟨61, 25, 7, some 0⟩ n61_11 ⟨[(16, abV ⟨ah, al, au⟩), (15, iv i), (6, pp 1), (3, pp 3), (2, pp 4)], [.loop (lp61 1 3 4), fc86 2, limB p, c1 x, ptB r f 5 off n c 6 off2 m c2, .cells cs 3 true own, .cells cs2 1 true own2], []⟩ =
      some (.normal, ⟨[(8, pp 7), (16, abV ⟨ah, al, au⟩), (15, iv i), (6, pp 1), (3, pp 3), (2, pp 4)], [.loop (lp61 1 3 4), fc86 2, limB p, c1 x, ptB r f 5 off n c 6 off2 m c2, .cells cs 3 true own, .cells cs2 1 true own2, abB ⟨ah, al, au⟩], []⟩) := by
    simp (maxSteps := 1000000) (disch := first | omega | decide | assumption | simp [scal]) [za_127, za_155, sz_155, loadA_eq ia_115, loadA_eq ia_3, za_59, sz_59, loadA_eq ia_155, o_fieldAddr fa_115_0 (by decide), loadA_eq ia_24, loadA_eq ia_59, loadA_eq ia_127, sz_127]
  have e2 : codeB Try.prog LL ⟨61, 25, 7, some 0⟩ n61_12 ⟨[(8, pp 7), (16, abV ⟨ah, al, au⟩), (15, iv i), (6, pp 1), (3, pp 3), (2, pp 4)], [.loop { lp61 1 3 4 with state := .busy }, fc86 2, limB p, c1 x, ptB r f 5 off n c 6 off2 m c2, .cells cs 3 true own, .cells cs2 1 true own2, abB ⟨ah, al, au⟩], [0]⟩ =
      some (.normal, ⟨[(8, pp 7), (16, abV ⟨ah, al, au⟩), (15, iv i), (6, pp 1), (3, pp 3), (2, pp 4)], [.loop { lp61 1 3 4 with state := .busy }, fc86 2, limB q, c1 x, ptB r f 5 off n c 6 off2 m c2, .cells cs 3 true own, .cells cs2 1 true own2, abB ⟨ah, al, au⟩], [0, 2]⟩) := by
    simp (maxSteps := 1000000) (disch := first | omega | decide | assumption | simp [scal]) [za_127, za_155, sz_155, loadA_eq ia_115, loadA_eq ia_3, za_59, sz_59, loadA_eq ia_155, o_fieldAddr fa_115_0 (by decide), loadA_eq ia_24, loadA_eq ia_59, loadA_eq ia_127, sz_127, hk, hq, callV_fc, addWr, ins]
  rw [rnd_step (lp := lp61 1 3 4) (l1 := lp61 1 3 4) (l2 := { lp61 1 3 4 with state := .busy }) rfl rfl rfl rfl rfl e1 rfl rfl e2 rfl]
  simp (maxSteps := 1000000) (disch := first | omega | decide | assumption | simp [scal]) [ins, lp61, limB, ptrB, renB]
end
end Go.Proofs.Ytiafgimgcbmgaaa.bl

namespace Go.Proofs.Ytiafgimgcbmgaaa.bl
open Go.GE
set_option linter.unusedVariables false
set_option linter.unusedSimpArgs false
set_option maxRecDepth 100000
set_option maxHeartbeats 4000000
attribute [local simp] runOps_nil runOps_cons runOpsF_nil runOpsF_cons fstS_some fstF_some opStep_eq want_none oStep_true oStep_false fin_pure fin_read fin_alloc fin_write storeB wrN cellV addWr o_move o_assign o_pick o_alloc o_box o_load o_store o_nilCheck o_bin o_un o_extract o_callV o_callB o_callI callV_f callV_y callV_fc o_makeFunc partsA Instr.fill builtin_len builtin_max2 bin_add bin_sub bin_mul bin_quo bin_rem bin_lss bin_leq bin_gtr bin_geq bin_eql bin_neq un_neg un_not bin_shr bin_shl wrap_u64_id opd opds optAll putO nbeq nblt constOk isC ops sub cl cr co bodyOf thenS_normal thenS_ret thenS_exit thenS_goto afterN_normal afterN_ret afterN_exit afterN_goto condS_true condS_false blockS_normal blockS_ret blockS_exit blockS_goto headS normS normK_eq fixS_nil fixS_cons fix1 fixV emptyB keepO_nil keepO_cons roundC_normal roundC_exit roundC_ret roundC_goto sweep_eq sweepD rnm pickR pickW rootsB ptrT renT ptrFn renFn ptrB_flat ptrB_non renB_flat renB_non plainS_some drawS_some fpsOk disj unord range' dropTo enumT undef wrap_i64_id Value.cells mkCells ptrTo scal cellsAt rdN endS_ret resultsA Option.bind_some tupV finish reachN dep ptrL_eq ptrL renL_eq renL ptrV_bool ptrV_int ptrV_string ptrV_nilFunc ptrV_nilIface ptrV_nilPtr ptrV_ptr ptrV_nilSl ptrV_sl ptrV_iface ptrV_agg ptrV_tuple ptrV_func renV_bool renV_int renV_string renV_nilFunc renV_nilIface renV_nilPtr renV_ptr renV_nilSl renV_sl renV_iface renV_agg renV_tuple renV_func gotoS_goto gotoS_normal gotoS_exit gotoS_ret skip_seq sliceE bnd bndHi intOf optOpd keepT_nil keepT_cons keepC_t keepC_f lk_nil lk_cons lkC_t lkC_f has_nil has_cons hasC_t hasC_f rep_nil rep_cons repC_t repC_f put_eq putC_t putC_f mem_nil mem_cons memC_t memC_f idx_nil idx_cons idxC_t idxC_f reach_nil reach_cons reachC_t reachC_f
attribute [local simp] n103_1s n103_5s n103_8s n103_9s n103_7s n103_13s n103_15s n103_17s n103_18s n103_16s n103_14s n103_12s n103_11s n103_19s n103_10s n103_6s n103_4s n103_3s n103_3g n103_2s n103_0s Try.f103
/-- the values at an hour, absolute by absolute of its part -/
def valL (r f : Int) (l : Nat → Ab) (m : Nat) (st : Nat → Int) (x : Int) (pt : Nat) : Nat → Nat → Lim → Lim
  | 0, _, p => p
  | k + 1, i, p => valL r f l m st x pt k (i + 1) (if partS m st (l i).h = pt then vStep p (arLo r f (l i) x) (arHi r f (l i) x) else p)
section
variable (r f : Int) (off n c off2 m c2 : Nat) (cs cs2 : List Value) (own own2 : Bool) (x : Int)
theorem y103v (D : Dr r f) (a : Ab) (A : OkA a) (x0 : 0 ≤ x) (x1 : x ≤ 10000) (i : Nat) (p : Lim) (rest : List Blk) :
    yieldH LL 0 [iv i, abV a] (.loop (lp61 1 3 4) :: fc86 2 :: limB p :: c1 x :: ptB r f 5 off n c 6 off2 m c2 :: .cells cs 3 true own :: .cells cs2 1 true own2 :: rest) =
      some ⟨.bool true, .loop (lp61 1 3 4) :: fc86 2 :: limB (vStep p (arLo r f a x) (arHi r f a x)) :: c1 x :: ptB r f 5 off n c 6 off2 m c2 :: .cells cs 3 true own :: .cells cs2 1 true own2 :: rest, [0, 1, 2, 3, 4, 5, 6], [0, 2]⟩ := by
  have e := r61 r f off n c off2 m c2 cs cs2 own own2 x D a A x0 x1 i p
  generalize vStep p (arLo r f a x) (arHi r f a x) = q at *
  have hm : ∀ k : Nat, 20 < k → reach (.loop (lp61 1 3 4) :: fc86 2 :: limB p :: c1 x :: ptB r f 5 off n c 6 off2 m c2 :: .cells cs 3 true own :: .cells cs2 1 true own2 :: rest) 0 k [0] [] = [0, 1, 2, 3, 4, 5, 6] := by
    intro k hk
    obtain ⟨k, rfl⟩ : ∃ j, k = j + 20 := ⟨k - 20, by omega⟩
    simp [reach_cons, reachC_t, reachC_f, reach_nil, rootsB, GE.mem, nblt, nbeq, ptrB, lp61, limB, ptrT, ptrV_ptr, ptrV_sl, ptrV_int, ptrV_func, ptrFn, ptrL, dep]
  unfold yieldH
  have hp : 0 :: ([iv i, abV a] : List Value).flatMap (ptrV dep) = [0] := rfl
  have hr : ∀ g, optAll (renV g dep) [iv i, abV a] = some [iv i, abV a] := fun _ => rfl
  simp only [hp, hm reachN (by decide), hr]
  simp only [lp61, limB] at e ⊢
  simp [optAll, renB, renT, renV_ptr, renV_sl, renV_int, renV_func, renFn, renL, dep, idx, nbeq, e, mergeB, renV_bool, nblt]
variable (l : Nat → Ab) (st : Nat → Int)
theorem l103v (S : Sht r f n l) (hc : AbC cs off n l) (hc2 : IvC cs2 off2 m st) (ha : Asc m st) (hm : m ≤ 1000) (x0 : 0 ≤ x) (x1 : x ≤ 10000) (pt : Nat) : ∀ q i : Nat, i + q = n → ∀ W p, (W = [] ∨ W = [0, 2]) → ∃ W', (W' = [] ∨ W' = [0, 2]) ∧ (W = [0, 2] → W' = [0, 2]) ∧ (W' = [] → valL r f l m st x pt q i p = p) ∧
    lpB Try.prog LL ⟨103, 29, 9, none⟩ n103_3 n103_4 ⟨[(0, .func (.yield 0) #[] #[]), (1, pp 7), (2, pp 8), (8, stV 5 off n c), (9, iv n), (10, iv i)], [.loop (lp61 1 3 4), fc86 2, limB p, c1 x, ptB r f 5 off n c 6 off2 m c2, .cells cs 3 true own, .cells cs2 1 true own2, ptB r f 5 off n c 6 off2 m c2, c1 pt], W⟩ =
      some (.exit 0, ⟨[], [.loop (lp61 1 3 4), fc86 2, limB (valL r f l m st x pt q i p), c1 x, ptB r f 5 off n c 6 off2 m c2, .cells cs 3 true own, .cells cs2 1 true own2, ptB r f 5 off n c 6 off2 m c2, c1 pt], W'⟩) := by
  have hn := S.n40
  intro q
  induction q with
  | zero =>
    intro i hi W p hW
    obtain rfl : i = n := by omega
    refine ⟨W, hW, fun h => h, fun _ => rfl, ?_⟩
    rw [lpB_eq]
    simp only [lp61, limB, valL]
    rcases hW with rfl | rfl <;>
    simp (maxSteps := 1000000) (disch := first | omega | decide | assumption | simp [scal]) [o_fieldAddr fa_115_0 (by decide), o_fieldAddr fa_24_2 (by decide), loadA_eq ia_22, lenA_sl lk_22, o_indexAddrS es_22, loadA_eq ia_59, za_59, sz_59, loadA_eq ia_115, o_fieldAddr fa_59_0 (by decide), loadA_eq ia_3, want_some q103_15g6, ptrB, renB]
  | succ q ih =>
    intro i hi W p hW
    have e1 : i < n := by omega
    obtain ⟨p2, p3, p4⟩ := hc i e1
    have a1 := fun b0 b1 b2 b3 b4 bx => k88 r f 5 off n c 6 off2 m c2 (h := b0 :: b1 :: b2 :: b3 :: b4 :: .cells cs 3 true own :: .cells cs2 1 true own2 :: bx) (cs := cs) (cs2 := cs2) rfl rfl (by decide) hc2 ha hm (l i).h
    have a2 := y103v r f off n c off2 m c2 cs cs2 own own2 x S.dr (l i) (S.ok i e1) x0 x1 i p
    by_cases w1 : partS m st (l i).h = pt
    · have w1' : (partS m st (l i).h : Int) = pt := by rw [w1]
      have hv : valL r f l m st x pt (q + 1) i p = valL r f l m st x pt q (i + 1) (vStep p (arLo r f (l i) x) (arHi r f (l i) x)) := by simp only [valL]; rw [if_pos w1]
      obtain ⟨W', hW', hz, _, this⟩ := ih (i + 1) (by omega) [0, 2] (vStep p (arLo r f (l i) x) (arHi r f (l i) x)) (.inr rfl)
      obtain rfl := hz rfl
      refine ⟨[0, 2], .inr rfl, fun _ => rfl, fun h => by simp at h, ?_⟩
      rw [hv, lpB_eq]
      generalize vStep p (arLo r f (l i) x) (arHi r f (l i) x) = p' at *
      simp only [cast1, lp61, limB] at this a2 ⊢
      rcases hW with rfl | rfl <;>
      simp (maxSteps := 1000000) (disch := first | omega | decide | assumption | simp [scal]) [o_fieldAddr fa_115_0 (by decide), o_fieldAddr fa_24_2 (by decide), loadA_eq ia_22, lenA_sl lk_22, o_indexAddrS es_22, loadA_eq ia_59, za_59, sz_59, loadA_eq ia_115, o_fieldAddr fa_59_0 (by decide), loadA_eq ia_3, want_some q103_15g6, ptrB, renB, e1, p2, p3, p4, a1, a2, eq_true w1', addWr, ins, this]
    · have w1' : ¬ (partS m st (l i).h : Int) = pt := by omega
      have hv : valL r f l m st x pt (q + 1) i p = valL r f l m st x pt q (i + 1) p := by simp only [valL]; rw [if_neg w1]
      obtain ⟨W', hW', hy, hz, this⟩ := ih (i + 1) (by omega) W p hW
      refine ⟨W', hW', hy, fun h => by rw [hv]; exact hz h, ?_⟩
      rw [hv, lpB_eq]
      simp only [cast1, lp61, limB] at this ⊢
      rcases hW with rfl | rfl <;>
      simp (maxSteps := 1000000) (disch := first | omega | decide | assumption | simp [scal]) [o_fieldAddr fa_115_0 (by decide), o_fieldAddr fa_24_2 (by decide), loadA_eq ia_22, lenA_sl lk_22, o_indexAddrS es_22, loadA_eq ia_59, za_59, sz_59, loadA_eq ia_115, o_fieldAddr fa_59_0 (by decide), loadA_eq ia_3, want_some q103_15g6, ptrB, renB, e1, p2, p3, p4, a1, w1', addWr, ins, this]
end
end Go.Proofs.Ytiafgimgcbmgaaa.bl

namespace Go.Proofs.Ytiafgimgcbmgaaa.bl
open Go.GE
set_option linter.unusedVariables false
set_option linter.unusedSimpArgs false
set_option maxRecDepth 100000
set_option maxHeartbeats 4000000
attribute [local simp] runOps_nil runOps_cons runOpsF_nil runOpsF_cons fstS_some fstF_some opStep_eq want_none oStep_true oStep_false fin_pure fin_read fin_alloc fin_write storeB wrN cellV addWr o_move o_assign o_pick o_alloc o_box o_load o_store o_nilCheck o_bin o_un o_extract o_callV o_callB o_callI callV_f callV_y callV_fc o_makeFunc partsA Instr.fill builtin_len builtin_max2 bin_add bin_sub bin_mul bin_quo bin_rem bin_lss bin_leq bin_gtr bin_geq bin_eql bin_neq un_neg un_not bin_shr bin_shl wrap_u64_id opd opds optAll putO nbeq nblt constOk isC ops sub cl cr co bodyOf thenS_normal thenS_ret thenS_exit thenS_goto afterN_normal afterN_ret afterN_exit afterN_goto condS_true condS_false blockS_normal blockS_ret blockS_exit blockS_goto headS normS normK_eq fixS_nil fixS_cons fix1 fixV emptyB keepO_nil keepO_cons roundC_normal roundC_exit roundC_ret roundC_goto sweep_eq sweepD rnm pickR pickW rootsB ptrT renT ptrFn renFn ptrB_flat ptrB_non renB_flat renB_non plainS_some drawS_some fpsOk disj unord range' dropTo enumT undef wrap_i64_id Value.cells mkCells ptrTo scal cellsAt rdN endS_ret resultsA Option.bind_some tupV finish reachN dep ptrL_eq ptrL renL_eq renL ptrV_bool ptrV_int ptrV_string ptrV_nilFunc ptrV_nilIface ptrV_nilPtr ptrV_ptr ptrV_nilSl ptrV_sl ptrV_iface ptrV_agg ptrV_tuple ptrV_func renV_bool renV_int renV_string renV_nilFunc renV_nilIface renV_nilPtr renV_ptr renV_nilSl renV_sl renV_iface renV_agg renV_tuple renV_func gotoS_goto gotoS_normal gotoS_exit gotoS_ret skip_seq sliceE bnd bndHi intOf optOpd keepT_nil keepT_cons keepC_t keepC_f lk_nil lk_cons lkC_t lkC_f has_nil has_cons hasC_t hasC_f rep_nil rep_cons repC_t repC_f put_eq putC_t putC_f mem_nil mem_cons memC_t memC_f idx_nil idx_cons idxC_t idxC_f reach_nil reach_cons reachC_t reachC_f
attribute [local simp] n103_1s n103_5s n103_8s n103_9s n103_7s n103_13s n103_15s n103_17s n103_18s n103_16s n103_14s n103_12s n103_11s n103_19s n103_10s n103_6s n103_4s n103_3s n103_3g n103_2s n103_0s Try.f103 n61_1s n61_3s n61_5s n61_8s n61_11s n61_13s n61_12s n61_9s n61_7s n61_15s n61_16s n61_14s n61_6s n61_4s n61_2s n61_0s Try.f61
def valS (r f : Int) (n : Nat) (l : Nat → Ab) (m : Nat) (st : Nat → Int) (x : Int) : Lim := valL r f l m st x (partS m st x) n 0 (0, 0, false)
abbrev limV (p : Lim) : Value := .agg #[iv p.1, iv p.2.1, .bool p.2.2]
section
variable (r f : Int) (off n c off2 m c2 : Nat) (cs cs2 : List Value) (own own2 : Bool) (x : Int) (l : Nat → Ab) (st : Nat → Int)
theorem c103v (S : Sht r f n l) (hc : AbC cs off n l) (hc2 : IvC cs2 off2 m st) (ha : Asc m st) (hm : m ≤ 1000) (x0 : 0 ≤ x) (x1 : x ≤ 10000) (pt : Nat) (p : Lim) :
    ∃ ws, (ws = [(0, .loop (lp61 1 3 4)), (2, limB (valL r f l m st x pt n 0 p))] ∨ (ws = [] ∧ valL r f l m st x pt n 0 p = p)) ∧
      LL.run 103 [.func (.yield 0) #[] #[], pp 7, pp 8] [.loop (lp61 1 3 4), fc86 2, limB p, c1 x, ptB r f 5 off n c 6 off2 m c2, .cells cs 3 true own, .cells cs2 1 true own2, ptB r f 5 off n c 6 off2 m c2, c1 pt] = some ⟨.tuple #[], [], ws⟩ := by
  obtain ⟨W, hW, _, hz, this⟩ := l103v r f off n c off2 m c2 cs cs2 own own2 x l st S hc hc2 ha hm x0 x1 pt n 0 (by omega) [] p (.inl rfl)
  simp only [Int.natCast_zero] at this
  rcases hW with rfl | rfl
  · refine ⟨[], .inr ⟨rfl, hz rfl⟩, go (by decide) ?_⟩
    rw [run103 _ _ _ (by simp)]
    simp only [lp61, limB] at this ⊢
    simp (maxSteps := 1000000) (disch := first | omega | decide | assumption | simp [scal]) [o_fieldAddr fa_115_0 (by decide), o_fieldAddr fa_24_2 (by decide), loadA_eq ia_22, lenA_sl lk_22, o_indexAddrS es_22, loadA_eq ia_59, za_59, sz_59, loadA_eq ia_115, o_fieldAddr fa_59_0 (by decide), loadA_eq ia_3, want_some q103_15g6, ptrB, renB, this, endS_normal]
  · refine ⟨_, .inl rfl, go (by decide) ?_⟩
    rw [run103 _ _ _ (by simp)]
    simp only [lp61, limB] at this ⊢
    simp (maxSteps := 1000000) (disch := first | omega | decide | assumption | simp [scal]) [o_fieldAddr fa_115_0 (by decide), o_fieldAddr fa_24_2 (by decide), loadA_eq ia_22, lenA_sl lk_22, o_indexAddrS es_22, loadA_eq ia_59, za_59, sz_59, loadA_eq ia_115, o_fieldAddr fa_59_0 (by decide), loadA_eq ia_3, want_some q103_15g6, ptrB, renB, this, endS_normal]
theorem h103v (S : Sht r f n l) (hc : AbC cs off n l) (hc2 : IvC cs2 off2 m st) (ha : Asc m st) (hm : m ≤ 1000) (x0 : 0 ≤ x) (x1 : x ≤ 10000) (pt : Nat) (b4 : Blk) (p : Lim) : ∃ W, (W = [] ∨ W = [9, 5]) ∧
    callH LL 103 [.func (.yield 9) #[] #[], pp 7, pp 8] [.cells cs 3 true own, .cells cs2 1 true own2, ptB r f 0 off n c 1 off2 m c2, c1 x, b4, limB p, fc86 5, ptB r f 0 off n c 1 off2 m c2, c1 pt, .loop (lp61 6 3 2)] =
      some ⟨.tuple #[], [.cells cs 3 true own, .cells cs2 1 true own2, ptB r f 0 off n c 1 off2 m c2, c1 x, b4, limB (valL r f l m st x pt n 0 p), fc86 5, ptB r f 0 off n c 1 off2 m c2, c1 pt, .loop (lp61 6 3 2)], [9, 6, 5, 3, 2, 0, 1, 7, 8], W⟩ := by
  have hm2 : ∀ q : Nat, 20 < q → reach [.cells cs 3 true own, .cells cs2 1 true own2, ptB r f 0 off n c 1 off2 m c2, c1 x, b4, limB p, fc86 5, ptB r f 0 off n c 1 off2 m c2, c1 pt, .loop (lp61 6 3 2)] 0 q [9, 7, 8] [] = [9, 6, 5, 3, 2, 0, 1, 7, 8] := by
    intro q hq
    obtain ⟨q, rfl⟩ : ∃ j, q = j + 20 := ⟨q - 20, by omega⟩
    simp [reach_cons, reachC_t, reachC_f, reach_nil, rootsB, GE.mem, nblt, nbeq, ptrB, lp61, limB, ptrT, ptrV_ptr, ptrV_sl, ptrV_int, ptrV_func, ptrFn, ptrL, dep]
  have hp : ([.func (.yield 9) #[] #[], pp 7, pp 8] : List Value).flatMap (ptrV dep) = [9, 7, 8] := rfl
  obtain ⟨ws, hws, e⟩ := c103v r f off n c off2 m c2 cs cs2 own own2 x l st S hc hc2 ha hm x0 x1 pt p
  have key : callH0 LL 103 [.func (.yield 9) #[] #[], pp 7, pp 8] [.cells cs 3 true own, .cells cs2 1 true own2, ptB r f 0 off n c 1 off2 m c2, c1 x, b4, limB p, fc86 5, ptB r f 0 off n c 1 off2 m c2, c1 pt, .loop (lp61 6 3 2)] =
      mergeB [.cells cs 3 true own, .cells cs2 1 true own2, ptB r f 0 off n c 1 off2 m c2, c1 x, b4, limB p, fc86 5, ptB r f 0 off n c 1 off2 m c2, c1 pt, .loop (lp61 6 3 2)] [9, 6, 5, 3, 2, 0, 1, 7, 8] ⟨.tuple #[], [], ws⟩ := by
    unfold callH0
    simp only [hp, hm2 reachN (by decide)]
    simp only [lp61, limB] at e ⊢
    simp [optAll, renV_func, renFn, renL, renV_ptr, dep, idx, nbeq, renB, renT, renL_eq, renV_int, renV_sl, renV_bool, e]
  rcases hws with rfl | ⟨rfl, hz⟩
  · refine ⟨[9, 5], .inr rfl, callH_of (by intro _; first | trivial | rfl) ?_ (by simp)⟩
    rw [key]
    simp only [lp61, limB]
    simp [mergeB, renV_tuple, renL, dep, optAll, renB, renT, renV_ptr, nblt]
  · refine ⟨[], .inl rfl, callH_of (by intro _; first | trivial | rfl) ?_ (by simp)⟩
    rw [key, hz]
    simp only [lp61, limB]
    simp [mergeB, renV_tuple, renL, dep, optAll, renB, renT, renV_ptr, nblt]
theorem c61 (S : Sht r f n l) (hc : AbC cs off n l) (hc2 : IvC cs2 off2 m st) (ha : Asc m st) (hm : m ≤ 1000) (x0 : 0 ≤ x) (x1 : x ≤ 10000) :
    LL.run 61 [ptV r f 0 off n c 1 off2 m c2, iv x] [.cells cs 3 true own, .cells cs2 1 true own2] = some ⟨limV (valS r f n l m st x), [], []⟩ := by
  refine go (by decide) ?_
  rw [run61 _ _ _ (by simp)]
  have a1 := fun bx => k88 r f 0 off n c 1 off2 m c2 (h := .cells cs 3 true own :: .cells cs2 1 true own2 :: bx) (cs := cs) (cs2 := cs2) rfl rfl (by decide) hc2 ha hm x
  have a2 := k87 r f off n c off2 m c2 cs cs2 own own2 (partS m st x)
  obtain ⟨W, hW, a3⟩ := h103v r f off n c off2 m c2 cs cs2 own own2 x l st S hc hc2 ha hm x0 x1 (partS m st x) (limB (0, 0, false)) (0, 0, false)
  simp (maxSteps := 1000000) (disch := first | omega | decide | assumption | simp [scal]) [za_127, za_155, sz_155, loadA_eq ia_115, loadA_eq ia_3, za_59, sz_59, loadA_eq ia_155, o_fieldAddr fa_115_0 (by decide), loadA_eq ia_24, loadA_eq ia_59, loadA_eq ia_127, sz_127, a1, a2]
  rw [range_step n61_10e n61_10k rfl]
  rw [← valS] at a3
  generalize valS r f n l m st x = q at *
  simp only [lp61, limB] at a3
  simp (maxSteps := 1000000) (disch := first | omega | decide | assumption | simp [scal]) [za_127, za_155, sz_155, loadA_eq ia_115, loadA_eq ia_3, za_59, sz_59, loadA_eq ia_155, o_fieldAddr fa_115_0 (by decide), loadA_eq ia_24, loadA_eq ia_59, loadA_eq ia_127, sz_127, a3]
  rw [rangeE_ready rfl rfl rfl]
  rcases hW with rfl | rfl <;>
  simp (maxSteps := 1000000) (disch := first | omega | decide | assumption | simp [scal]) [za_127, za_155, sz_155, loadA_eq ia_115, loadA_eq ia_3, za_59, sz_59, loadA_eq ia_155, o_fieldAddr fa_115_0 (by decide), loadA_eq ia_24, loadA_eq ia_59, loadA_eq ia_127, sz_127, addWr]
end
end Go.Proofs.Ytiafgimgcbmgaaa.bl

namespace Go.Proofs.Ytiafgimgcbmgaaa.bl
open Go.GE
set_option linter.unusedVariables false
set_option linter.unusedSimpArgs false
set_option maxRecDepth 100000
set_option maxHeartbeats 4000000
attribute [local simp] runOps_nil runOps_cons runOpsF_nil runOpsF_cons fstS_some fstF_some opStep_eq want_none oStep_true oStep_false fin_pure fin_read fin_alloc fin_write storeB wrN cellV addWr o_move o_assign o_pick o_alloc o_box o_load o_store o_nilCheck o_bin o_un o_extract o_callV o_callB o_callI callV_f callV_y callV_fc o_makeFunc partsA Instr.fill builtin_len builtin_max2 bin_add bin_sub bin_mul bin_quo bin_rem bin_lss bin_leq bin_gtr bin_geq bin_eql bin_neq un_neg un_not bin_shr bin_shl wrap_u64_id opd opds optAll putO nbeq nblt constOk isC ops sub cl cr co bodyOf thenS_normal thenS_ret thenS_exit thenS_goto afterN_normal afterN_ret afterN_exit afterN_goto condS_true condS_false blockS_normal blockS_ret blockS_exit blockS_goto headS normS normK_eq fixS_nil fixS_cons fix1 fixV emptyB keepO_nil keepO_cons roundC_normal roundC_exit roundC_ret roundC_goto sweep_eq sweepD rnm pickR pickW rootsB ptrT renT ptrFn renFn ptrB_flat ptrB_non renB_flat renB_non plainS_some drawS_some fpsOk disj unord range' dropTo enumT undef wrap_i64_id Value.cells mkCells ptrTo scal cellsAt rdN endS_ret resultsA Option.bind_some tupV finish reachN dep ptrL_eq ptrL renL_eq renL ptrV_bool ptrV_int ptrV_string ptrV_nilFunc ptrV_nilIface ptrV_nilPtr ptrV_ptr ptrV_nilSl ptrV_sl ptrV_iface ptrV_agg ptrV_tuple ptrV_func renV_bool renV_int renV_string renV_nilFunc renV_nilIface renV_nilPtr renV_ptr renV_nilSl renV_sl renV_iface renV_agg renV_tuple renV_func gotoS_goto gotoS_normal gotoS_exit gotoS_ret skip_seq sliceE bnd bndHi intOf optOpd keepT_nil keepT_cons keepC_t keepC_f lk_nil lk_cons lkC_t lkC_f has_nil has_cons hasC_t hasC_f rep_nil rep_cons repC_t repC_f put_eq putC_t putC_f mem_nil mem_cons memC_t memC_f idx_nil idx_cons idxC_t idxC_f reach_nil reach_cons reachC_t reachC_f
attribute [local simp] n69_1s n69_3s n69_6s n69_11s n69_13s n69_14s n69_12s n69_10s n69_18s n69_21s n69_23s n69_24s n69_22s n69_20s n69_26s n69_28s n69_31s n69_33s n69_34s n69_32s n69_30s n69_36s n69_39s n69_41s n69_42s n69_40s n69_38s n69_45s n69_47s n69_48s n69_46s n69_44s n69_49s n69_43s n69_37s n69_35s n69_29s n69_27s n69_25s n69_19s n69_17s n69_16s n69_50s n69_15s n69_9s n69_8s n69_8g n69_7s n69_5s n69_52s n69_53s n69_51s n69_4s n69_2s n69_0s Try.f69
abbrev spB (a b : Int) : Blk := .cells [iv a, iv b] 1 true true
theorem vStep_new (lo hi : Int) (a b : Int) : vStep (a, b, false) lo hi = (lo, hi, true) := rfl
theorem vStep_old (lo hi : Int) (a b : Int) : vStep (a, b, true) lo hi = (if a < lo then lo else a, if hi < b then hi else b, true) := rfl
section
variable (r f : Int) (off n c off2 m c2 : Nat) (cs cs2 : List Value) (own own2 : Bool) (x : Int) (l : Nat → Ab) (st : Nat → Int)
theorem l69 (S : Sht r f n l) (hc : AbC cs off n l) (hc2 : IvC cs2 off2 m st) (hm : m ≤ 1000) (x0 : 0 ≤ x) (x1 : x ≤ 10000) : ∀ k i : Nat, i + k = n → ∀ a b q,
    lpB Try.prog LL ⟨69, 90, 2, none⟩ n69_8 n69_9 ⟨[(1, stV 1 off2 m c2), (2, iv x), (3, pp 2), (6, pp 3), (8, pp 4), (9, .bool q), (10, iv i)], [.cells cs 3 true own, .cells cs2 1 true own2, shB r f 0 off n c, spB 0 0, spB a b], []⟩ =
      some (.exit 0, ⟨[(6, pp 2), (8, pp 3), (9, .bool (valL r f l m st x (partS m st x) k i (a, b, q)).2.2)], [.cells cs 3 true own, .cells cs2 1 true own2, spB 0 0, spB (valL r f l m st x (partS m st x) k i (a, b, q)).1 (valL r f l m st x (partS m st x) k i (a, b, q)).2.1], []⟩) := by
  have hn := S.n40
  intro k
  induction k with
  | zero =>
    intro i hi a b q
    obtain rfl : i = n := by omega
    rw [lpB_eq]
    simp (maxSteps := 1000000) (disch := first | omega | decide | assumption | simp [scal]) [za_57, o_build za_57 pl_57, sz_57, o_fieldAddr fa_29_2 (by decide), loadA_eq ia_27, lenA_sl lk_27, o_indexAddrS es_27, loadA_eq ia_108, za_108, sz_108, o_fieldAddr fa_108_0 (by decide), loadA_eq ia_3, o_fieldAddr fa_29_0 (by decide), o_fieldAddr fa_29_1 (by decide), o_fieldAddr fa_108_1 (by decide), o_fieldAddr fa_57_0 (by decide), o_fieldAddr fa_57_1 (by decide), sz_3, loadA_eq ia_57, want_some q69_39g2, want_some q69_45g2, valL]
  | succ k ih =>
    intro i hi a b q
    have e1 : i < n := by omega
    obtain ⟨p2, p3, p4⟩ := hc i e1
    have a1 := fun b0 bx => k84 1 off2 m c2 (h := b0 :: .cells cs2 1 true own2 :: bx) (cs2 := cs2) (own2 := own2) (st := st) rfl hc2 hm
    obtain ⟨r0, r1, f0, f1⟩ := S.dr
    obtain ⟨h0, h1, l0, l1, l2⟩ := S.ok i e1
    by_cases w : partS m st (l i).h = partS m st x
    · have w' : (partS m st (l i).h : Int) = partS m st x := by rw [w]
      have hv : ∀ p, valL r f l m st x (partS m st x) (k + 1) i p = valL r f l m st x (partS m st x) k (i + 1) (vStep p (arLo r f (l i) x) (arHi r f (l i) x)) := fun p => by simp only [valL]; rw [if_pos w]
      rw [hv, lpB_eq]
      by_cases hx : x - (l i).h < 0
      · obtain ⟨d, hd⟩ : ∃ d, (l i).h - x = d := ⟨_, rfl⟩
        have m1 := mulB (d := d) (by omega) (by omega) f0 f1
        have m2 := mulB (d := d) (by omega) (by omega) r0 r1
        have hx2 : x - (l i).h = -d := by omega
        have hx3 : 0 < d := by omega
        have g1 : arLo r f (l i) x = (l i).lo - r * d := by unfold arLo; rw [if_neg (by omega), hd, Int.mul_comm]
        have g2 : arHi r f (l i) x = (l i).hi + f * d := by unfold arHi; rw [if_neg (by omega), hd, Int.mul_comm]
        rw [Int.mul_comm d] at m1 m2
        rw [g1, g2]
        cases q
        · rw [vStep_new]
          have this := ih (i + 1) (by omega) ((l i).lo - r * d) ((l i).hi + f * d) true
          simp only [cast1] at this
          simp (maxSteps := 1000000) (disch := first | omega | decide | assumption | simp [scal]) [za_57, o_build za_57 pl_57, sz_57, o_fieldAddr fa_29_2 (by decide), loadA_eq ia_27, lenA_sl lk_27, o_indexAddrS es_27, loadA_eq ia_108, za_108, sz_108, o_fieldAddr fa_108_0 (by decide), loadA_eq ia_3, o_fieldAddr fa_29_0 (by decide), o_fieldAddr fa_29_1 (by decide), o_fieldAddr fa_108_1 (by decide), o_fieldAddr fa_57_0 (by decide), o_fieldAddr fa_57_1 (by decide), sz_3, loadA_eq ia_57, want_some q69_39g2, want_some q69_45g2, e1, p2, p3, p4, a1, eq_true w', hx2, hx3, this]
        · rw [vStep_old]
          have this := ih (i + 1) (by omega) (if a < (l i).lo - r * d then (l i).lo - r * d else a) (if (l i).hi + f * d < b then (l i).hi + f * d else b) true
          simp only [cast1] at this
          by_cases c1 : a < (l i).lo - r * d <;> by_cases c2 : (l i).hi + f * d < b
          · rw [if_pos c1, if_pos c2] at this ⊢
            simp (maxSteps := 1000000) (disch := first | omega | decide | assumption | simp [scal]) [za_57, o_build za_57 pl_57, sz_57, o_fieldAddr fa_29_2 (by decide), loadA_eq ia_27, lenA_sl lk_27, o_indexAddrS es_27, loadA_eq ia_108, za_108, sz_108, o_fieldAddr fa_108_0 (by decide), loadA_eq ia_3, o_fieldAddr fa_29_0 (by decide), o_fieldAddr fa_29_1 (by decide), o_fieldAddr fa_108_1 (by decide), o_fieldAddr fa_57_0 (by decide), o_fieldAddr fa_57_1 (by decide), sz_3, loadA_eq ia_57, want_some q69_39g2, want_some q69_45g2, e1, p2, p3, p4, a1, eq_true w', hx2, hx3, c1, c2, this]
          · rw [if_pos c1, if_neg c2] at this ⊢
            simp (maxSteps := 1000000) (disch := first | omega | decide | assumption | simp [scal]) [za_57, o_build za_57 pl_57, sz_57, o_fieldAddr fa_29_2 (by decide), loadA_eq ia_27, lenA_sl lk_27, o_indexAddrS es_27, loadA_eq ia_108, za_108, sz_108, o_fieldAddr fa_108_0 (by decide), loadA_eq ia_3, o_fieldAddr fa_29_0 (by decide), o_fieldAddr fa_29_1 (by decide), o_fieldAddr fa_108_1 (by decide), o_fieldAddr fa_57_0 (by decide), o_fieldAddr fa_57_1 (by decide), sz_3, loadA_eq ia_57, want_some q69_39g2, want_some q69_45g2, e1, p2, p3, p4, a1, eq_true w', hx2, hx3, c1, c2, this]
          · rw [if_neg c1, if_pos c2] at this ⊢
            simp (maxSteps := 1000000) (disch := first | omega | decide | assumption | simp [scal]) [za_57, o_build za_57 pl_57, sz_57, o_fieldAddr fa_29_2 (by decide), loadA_eq ia_27, lenA_sl lk_27, o_indexAddrS es_27, loadA_eq ia_108, za_108, sz_108, o_fieldAddr fa_108_0 (by decide), loadA_eq ia_3, o_fieldAddr fa_29_0 (by decide), o_fieldAddr fa_29_1 (by decide), o_fieldAddr fa_108_1 (by decide), o_fieldAddr fa_57_0 (by decide), o_fieldAddr fa_57_1 (by decide), sz_3, loadA_eq ia_57, want_some q69_39g2, want_some q69_45g2, e1, p2, p3, p4, a1, eq_true w', hx2, hx3, c1, c2, this]
          · rw [if_neg c1, if_neg c2] at this ⊢
            simp (maxSteps := 1000000) (disch := first | omega | decide | assumption | simp [scal]) [za_57, o_build za_57 pl_57, sz_57, o_fieldAddr fa_29_2 (by decide), loadA_eq ia_27, lenA_sl lk_27, o_indexAddrS es_27, loadA_eq ia_108, za_108, sz_108, o_fieldAddr fa_108_0 (by decide), loadA_eq ia_3, o_fieldAddr fa_29_0 (by decide), o_fieldAddr fa_29_1 (by decide), o_fieldAddr fa_108_1 (by decide), o_fieldAddr fa_57_0 (by decide), o_fieldAddr fa_57_1 (by decide), sz_3, loadA_eq ia_57, want_some q69_39g2, want_some q69_45g2, e1, p2, p3, p4, a1, eq_true w', hx2, hx3, c1, c2, this]
      · obtain ⟨d, hd⟩ : ∃ d, x - (l i).h = d := ⟨_, rfl⟩
        have m1 := mulB (d := d) (by omega) (by omega) f0 f1
        have m2 := mulB (d := d) (by omega) (by omega) r0 r1
        have hx3 : ¬ d < 0 := by omega
        have g1 : arLo r f (l i) x = (l i).lo - f * d := by unfold arLo; rw [if_pos (by omega), hd, Int.mul_comm]
        have g2 : arHi r f (l i) x = (l i).hi + r * d := by unfold arHi; rw [if_pos (by omega), hd, Int.mul_comm]
        rw [Int.mul_comm d] at m1 m2
        rw [g1, g2]
        cases q
        · rw [vStep_new]
          have this := ih (i + 1) (by omega) ((l i).lo - f * d) ((l i).hi + r * d) true
          simp only [cast1] at this
          simp (maxSteps := 1000000) (disch := first | omega | decide | assumption | simp [scal]) [za_57, o_build za_57 pl_57, sz_57, o_fieldAddr fa_29_2 (by decide), loadA_eq ia_27, lenA_sl lk_27, o_indexAddrS es_27, loadA_eq ia_108, za_108, sz_108, o_fieldAddr fa_108_0 (by decide), loadA_eq ia_3, o_fieldAddr fa_29_0 (by decide), o_fieldAddr fa_29_1 (by decide), o_fieldAddr fa_108_1 (by decide), o_fieldAddr fa_57_0 (by decide), o_fieldAddr fa_57_1 (by decide), sz_3, loadA_eq ia_57, want_some q69_39g2, want_some q69_45g2, e1, p2, p3, p4, a1, eq_true w', hd, hx3, this]
        · rw [vStep_old]
          have this := ih (i + 1) (by omega) (if a < (l i).lo - f * d then (l i).lo - f * d else a) (if (l i).hi + r * d < b then (l i).hi + r * d else b) true
          simp only [cast1] at this
          by_cases c1 : a < (l i).lo - f * d <;> by_cases c2 : (l i).hi + r * d < b
          · rw [if_pos c1, if_pos c2] at this ⊢
            simp (maxSteps := 1000000) (disch := first | omega | decide | assumption | simp [scal]) [za_57, o_build za_57 pl_57, sz_57, o_fieldAddr fa_29_2 (by decide), loadA_eq ia_27, lenA_sl lk_27, o_indexAddrS es_27, loadA_eq ia_108, za_108, sz_108, o_fieldAddr fa_108_0 (by decide), loadA_eq ia_3, o_fieldAddr fa_29_0 (by decide), o_fieldAddr fa_29_1 (by decide), o_fieldAddr fa_108_1 (by decide), o_fieldAddr fa_57_0 (by decide), o_fieldAddr fa_57_1 (by decide), sz_3, loadA_eq ia_57, want_some q69_39g2, want_some q69_45g2, e1, p2, p3, p4, a1, eq_true w', hd, hx3, c1, c2, this]
          · rw [if_pos c1, if_neg c2] at this ⊢
            simp (maxSteps := 1000000) (disch := first | omega | decide | assumption | simp [scal]) [za_57, o_build za_57 pl_57, sz_57, o_fieldAddr fa_29_2 (by decide), loadA_eq ia_27, lenA_sl lk_27, o_indexAddrS es_27, loadA_eq ia_108, za_108, sz_108, o_fieldAddr fa_108_0 (by decide), loadA_eq ia_3, o_fieldAddr fa_29_0 (by decide), o_fieldAddr fa_29_1 (by decide), o_fieldAddr fa_108_1 (by decide), o_fieldAddr fa_57_0 (by decide), o_fieldAddr fa_57_1 (by decide), sz_3, loadA_eq ia_57, want_some q69_39g2, want_some q69_45g2, e1, p2, p3, p4, a1, eq_true w', hd, hx3, c1, c2, this]
          · rw [if_neg c1, if_pos c2] at this ⊢
            simp (maxSteps := 1000000) (disch := first | omega | decide | assumption | simp [scal]) [za_57, o_build za_57 pl_57, sz_57, o_fieldAddr fa_29_2 (by decide), loadA_eq ia_27, lenA_sl lk_27, o_indexAddrS es_27, loadA_eq ia_108, za_108, sz_108, o_fieldAddr fa_108_0 (by decide), loadA_eq ia_3, o_fieldAddr fa_29_0 (by decide), o_fieldAddr fa_29_1 (by decide), o_fieldAddr fa_108_1 (by decide), o_fieldAddr fa_57_0 (by decide), o_fieldAddr fa_57_1 (by decide), sz_3, loadA_eq ia_57, want_some q69_39g2, want_some q69_45g2, e1, p2, p3, p4, a1, eq_true w', hd, hx3, c1, c2, this]
          · rw [if_neg c1, if_neg c2] at this ⊢
            simp (maxSteps := 1000000) (disch := first | omega | decide | assumption | simp [scal]) [za_57, o_build za_57 pl_57, sz_57, o_fieldAddr fa_29_2 (by decide), loadA_eq ia_27, lenA_sl lk_27, o_indexAddrS es_27, loadA_eq ia_108, za_108, sz_108, o_fieldAddr fa_108_0 (by decide), loadA_eq ia_3, o_fieldAddr fa_29_0 (by decide), o_fieldAddr fa_29_1 (by decide), o_fieldAddr fa_108_1 (by decide), o_fieldAddr fa_57_0 (by decide), o_fieldAddr fa_57_1 (by decide), sz_3, loadA_eq ia_57, want_some q69_39g2, want_some q69_45g2, e1, p2, p3, p4, a1, eq_true w', hd, hx3, c1, c2, this]
    · have w' : ¬ (partS m st (l i).h : Int) = partS m st x := by omega
      have hv : ∀ p, valL r f l m st x (partS m st x) (k + 1) i p = valL r f l m st x (partS m st x) k (i + 1) p := fun p => by simp only [valL]; rw [if_neg w]
      have this := ih (i + 1) (by omega) a b q
      rw [hv, lpB_eq]
      simp only [cast1] at this
      simp (maxSteps := 1000000) (disch := first | omega | decide | assumption | simp [scal]) [za_57, o_build za_57 pl_57, sz_57, o_fieldAddr fa_29_2 (by decide), loadA_eq ia_27, lenA_sl lk_27, o_indexAddrS es_27, loadA_eq ia_108, za_108, sz_108, o_fieldAddr fa_108_0 (by decide), loadA_eq ia_3, o_fieldAddr fa_29_0 (by decide), o_fieldAddr fa_29_1 (by decide), o_fieldAddr fa_108_1 (by decide), o_fieldAddr fa_57_0 (by decide), o_fieldAddr fa_57_1 (by decide), sz_3, loadA_eq ia_57, want_some q69_39g2, want_some q69_45g2, e1, p2, p3, p4, a1, w', this]
theorem c69 (S : Sht r f n l) (hc : AbC cs off n l) (hc2 : IvC cs2 off2 m st) (hm : m ≤ 1000) (x0 : 0 ≤ x) (x1 : x ≤ 10000) :
    LL.run 69 [shV r f 0 off n c, stV 1 off2 m c2, iv x] [.cells cs 3 true own, .cells cs2 1 true own2] = some ⟨.tuple #[.agg #[iv (valS r f n l m st x).1, iv (valS r f n l m st x).2.1], .bool (valS r f n l m st x).2.2], [], []⟩ := by
  refine go (by decide) ?_
  rw [run69 _ _ _ (by simp)]
  have this := l69 r f off n c off2 m c2 cs cs2 own own2 x l st S hc hc2 hm x0 x1 n 0 (by omega) 0 0 false
  rw [← valS] at this
  simp only [Int.natCast_zero] at this
  simp (maxSteps := 1000000) (disch := first | omega | decide | assumption | simp [scal]) [za_57, o_build za_57 pl_57, sz_57, o_fieldAddr fa_29_2 (by decide), loadA_eq ia_27, lenA_sl lk_27, o_indexAddrS es_27, loadA_eq ia_108, za_108, sz_108, o_fieldAddr fa_108_0 (by decide), loadA_eq ia_3, o_fieldAddr fa_29_0 (by decide), o_fieldAddr fa_29_1 (by decide), o_fieldAddr fa_108_1 (by decide), o_fieldAddr fa_57_0 (by decide), o_fieldAddr fa_57_1 (by decide), sz_3, loadA_eq ia_57, want_some q69_39g2, want_some q69_45g2, this]
end
end Go.Proofs.Ytiafgimgcbmgaaa.bl

namespace Go.Proofs.Ytiafgimgcbmgaaa.bl
open Go.GE
set_option linter.unusedVariables false
set_option linter.unusedSimpArgs false
set_option maxRecDepth 100000
set_option maxHeartbeats 4000000
attribute [local simp] runOps_nil runOps_cons runOpsF_nil runOpsF_cons fstS_some fstF_some opStep_eq want_none oStep_true oStep_false fin_pure fin_read fin_alloc fin_write storeB wrN cellV addWr o_move o_assign o_pick o_alloc o_box o_load o_store o_nilCheck o_bin o_un o_extract o_callV o_callB o_callI callV_f callV_y callV_fc o_makeFunc partsA Instr.fill builtin_len builtin_max2 bin_add bin_sub bin_mul bin_quo bin_rem bin_lss bin_leq bin_gtr bin_geq bin_eql bin_neq un_neg un_not bin_shr bin_shl wrap_u64_id opd opds optAll putO nbeq nblt constOk isC ops sub cl cr co bodyOf thenS_normal thenS_ret thenS_exit thenS_goto afterN_normal afterN_ret afterN_exit afterN_goto condS_true condS_false blockS_normal blockS_ret blockS_exit blockS_goto headS normS normK_eq fixS_nil fixS_cons fix1 fixV emptyB keepO_nil keepO_cons roundC_normal roundC_exit roundC_ret roundC_goto sweep_eq sweepD rnm pickR pickW rootsB ptrT renT ptrFn renFn ptrB_flat ptrB_non renB_flat renB_non plainS_some drawS_some fpsOk disj unord range' dropTo enumT undef wrap_i64_id Value.cells mkCells ptrTo scal cellsAt rdN endS_ret resultsA Option.bind_some tupV finish reachN dep ptrL_eq ptrL renL_eq renL ptrV_bool ptrV_int ptrV_string ptrV_nilFunc ptrV_nilIface ptrV_nilPtr ptrV_ptr ptrV_nilSl ptrV_sl ptrV_iface ptrV_agg ptrV_tuple ptrV_func renV_bool renV_int renV_string renV_nilFunc renV_nilIface renV_nilPtr renV_ptr renV_nilSl renV_sl renV_iface renV_agg renV_tuple renV_func gotoS_goto gotoS_normal gotoS_exit gotoS_ret skip_seq sliceE bnd bndHi intOf optOpd keepT_nil keepT_cons keepC_t keepC_f lk_nil lk_cons lkC_t lkC_f has_nil has_cons hasC_t hasC_f rep_nil rep_cons repC_t repC_f put_eq putC_t putC_f mem_nil mem_cons memC_t memC_f idx_nil idx_cons idxC_t idxC_f reach_nil reach_cons reachC_t reachC_f
attribute [local simp] n29_1s n29_3s n29_7s n29_10s n29_11s n29_9s n29_13s n29_16s n29_17s n29_15s n29_18s n29_14s n29_12s n29_8s n29_6s n29_5s n29_20s n29_23s n29_26s n29_27s n29_25s n29_28s n29_24s n29_22s n29_30s n29_31s n29_29s n29_21s n29_19s n29_4s n29_2s n29_0s Try.f29 n33_1s n33_3s n33_6s n33_8s n33_9s n33_7s n33_5s n33_12s n33_15s n33_16s n33_14s n33_17s n33_13s n33_11s n33_19s n33_22s n33_25s n33_26s n33_24s n33_27s n33_23s n33_21s n33_29s n33_30s n33_28s n33_20s n33_18s n33_10s n33_4s n33_2s n33_0s Try.f33
theorem sv_ren (r f : Int) (b1 off n c b2 off2 m c2 : Nat) (x : Int) (hne : b1 ≠ b2) : optAll (renV (idx [b1, b2]) dep) [shV r f b1 off n c, stV b2 off2 m c2, iv x] = some [shV r f 0 off n c, stV 1 off2 m c2, iv x] := by simp [renV, dep, optAll, idx, nbeq, hne, hne.symm]
noncomputable def valE (r f : Int) (n : Nat) (l : Nat → Ab) (m : Nat) (st : Nat → Int) (x : Int) : Int :=
  if expE r f n l m st ≠ 0 then expE r f n l m st else if (decide (0 ≤ x) && decide (x ≤ 10000)) = false then 1 else if (valS r f n l m st x).2.2 = false then 14 else 0
noncomputable def valP (r f : Int) (n : Nat) (l : Nat → Ab) (m : Nat) (st : Nat → Int) (x : Int) : Int × Int :=
  if valE r f n l m st x = 0 then ((valS r f n l m st x).1, (valS r f n l m st x).2.1) else (0, 0)
theorem exp_ok {r f : Int} {n : Nat} {l : Nat → Ab} {m : Nat} {st : Nat → Int} (h : expE r f n l m st = 0) : Sht r f n l ∧ Asc m st ∧ m ≤ 40 := by
  unfold expE at h
  split at h
  · rename_i h1; exact absurd h h1
  · rename_i h1; exact ptd_chk (by simpa using h1)
section
variable (r f : Int) (b1 off n c b2 off2 m c2 : Nat) {cs cs2 : List Value} {own own2 : Bool} {l : Nat → Ab} {st : Nat → Int} (x : Int) {h : List Blk}
theorem k61 (S : Sht r f n l) (hb : h[b1]? = some (.cells cs 3 true own)) (hb2 : h[b2]? = some (.cells cs2 1 true own2)) (hne : b1 ≠ b2) (hc : AbC cs off n l) (hc2 : IvC cs2 off2 m st) (ha : Asc m st) (hm : m ≤ 1000) (x0 : 0 ≤ x) (x1 : x ≤ 10000) :
    callH LL 61 [ptV r f b1 off n c b2 off2 m c2, iv x] h = some ⟨limV (valS r f n l m st x), h, [b1, b2], []⟩ :=
  callH_2 rfl hb hb2 hne noIdB_flat noIdB_flat (args' := [ptV r f 0 off n c 1 off2 m c2, iv x]) (by simp [renV, dep, optAll, idx, nbeq, hne, hne.symm]) (c61 r f off n c off2 m c2 cs cs2 own own2 x l st S hc hc2 ha hm x0 x1) fun _ => rfl
theorem k69 (S : Sht r f n l) (hb : h[b1]? = some (.cells cs 3 true own)) (hb2 : h[b2]? = some (.cells cs2 1 true own2)) (hne : b1 ≠ b2) (hc : AbC cs off n l) (hc2 : IvC cs2 off2 m st) (hm : m ≤ 1000) (x0 : 0 ≤ x) (x1 : x ≤ 10000) :
    callH LL 69 [shV r f b1 off n c, stV b2 off2 m c2, iv x] h = some ⟨.tuple #[.agg #[iv (valS r f n l m st x).1, iv (valS r f n l m st x).2.1], .bool (valS r f n l m st x).2.2], h, [b1, b2], []⟩ :=
  callH_2 rfl hb hb2 hne noIdB_flat noIdB_flat (sv_ren r f b1 off n c b2 off2 m c2 x hne) (c69 r f off n c off2 m c2 cs cs2 own own2 x l st S hc hc2 hm x0 x1) fun _ => rfl
end
section
variable (r f : Int) (off n c off2 m c2 : Nat) (cs cs2 : List Value) (own own2 : Bool) (x : Int) (l : Nat → Ab) (st : Nat → Int)
theorem c29 (hc : AbC cs off n l) (hc2 : IvC cs2 off2 m st) : LL.run 29 [shV r f 0 off n c, stV 1 off2 m c2, iv x] [.cells cs 3 true own, .cells cs2 1 true own2] = some ⟨.tuple #[.agg #[iv (valP r f n l m st x).1, iv (valP r f n l m st x).2], iv (valE r f n l m st x)], [], []⟩ := by
  refine go (by decide) ?_
  rw [run29 _ _ _ (by simp)]
  by_cases he : expE r f n l m st = 0
  · have a := fun bx => k53a r f 0 off n c 1 off2 m c2 (h := .cells cs 3 true own :: .cells cs2 1 true own2 :: bx) rfl rfl (by decide) hc hc2 he
    obtain ⟨S, ha, hm⟩ := exp_ok he
    cases hx : (decide (0 ≤ x) && decide (x ≤ 10000))
    · have h1 : valE r f n l m st x = 1 := by unfold valE; rw [if_neg (by simp [he]), if_pos hx]
      have h2 : valP r f n l m st x = (0, 0) := by unfold valP; rw [if_neg (by rw [h1]; decide)]
      rw [h1, h2]
      simp (maxSteps := 1000000) (disch := first | omega | decide | assumption | simp [scal]) [za_57, loadA_eq ia_24, za_115, sz_115, o_build za_57 pl_57, sz_57, loadA_eq ia_115, za_127, sz_127, o_fieldAddr fa_127_1 (by decide), loadA_eq ia_4, o_fieldAddr fa_127_0 (by decide), loadA_eq ia_57, loadA_eq ia_127, a, k56, hx]
    · have hx' := hx
      simp only [Bool.and_eq_true, decide_eq_true_eq] at hx'
      have a2 := fun bx => k61 r f 0 off n c 1 off2 m c2 x (h := .cells cs 3 true own :: .cells cs2 1 true own2 :: bx) S rfl rfl (by decide) hc hc2 ha (by omega) hx'.1 hx'.2
      cases hk : (valS r f n l m st x).2.2
      · have h1 : valE r f n l m st x = 14 := by unfold valE; rw [if_neg (by simp [he]), if_neg (by simp [hx]), if_pos hk]
        have h2 : valP r f n l m st x = (0, 0) := by unfold valP; rw [if_neg (by rw [h1]; decide)]
        rw [h1, h2]
        generalize valS r f n l m st x = q at *
        obtain ⟨q1, q2, q3⟩ := q
        simp only at hk
        subst hk
        simp (maxSteps := 1000000) (disch := first | omega | decide | assumption | simp [scal]) [za_57, loadA_eq ia_24, za_115, sz_115, o_build za_57 pl_57, sz_57, loadA_eq ia_115, za_127, sz_127, o_fieldAddr fa_127_1 (by decide), loadA_eq ia_4, o_fieldAddr fa_127_0 (by decide), loadA_eq ia_57, loadA_eq ia_127, a, k56, hx, a2]
      · have h1 : valE r f n l m st x = 0 := by unfold valE; rw [if_neg (by simp [he]), if_neg (by simp [hx]), if_neg (by simp [hk])]
        have h2 : valP r f n l m st x = ((valS r f n l m st x).1, (valS r f n l m st x).2.1) := by unfold valP; rw [if_pos h1]
        rw [h1, h2]
        generalize valS r f n l m st x = q at *
        obtain ⟨q1, q2, q3⟩ := q
        simp only at hk
        subst hk
        simp (maxSteps := 1000000) (disch := first | omega | decide | assumption | simp [scal]) [za_57, loadA_eq ia_24, za_115, sz_115, o_build za_57 pl_57, sz_57, loadA_eq ia_115, za_127, sz_127, o_fieldAddr fa_127_1 (by decide), loadA_eq ia_4, o_fieldAddr fa_127_0 (by decide), loadA_eq ia_57, loadA_eq ia_127, a, k56, hx, a2]
  · have a := fun bx => k53b r f 0 off n c 1 off2 m c2 (h := .cells cs 3 true own :: .cells cs2 1 true own2 :: bx) rfl rfl (by decide) hc hc2 he
    have h1 : valE r f n l m st x = expE r f n l m st := by unfold valE; rw [if_pos he]
    have h2 : valP r f n l m st x = (0, 0) := by unfold valP; rw [if_neg (by rw [h1]; exact he)]
    rw [h1, h2]
    simp (maxSteps := 1000000) (disch := first | omega | decide | assumption | simp [scal]) [za_57, loadA_eq ia_24, za_115, sz_115, o_build za_57 pl_57, sz_57, loadA_eq ia_115, za_127, sz_127, o_fieldAddr fa_127_1 (by decide), loadA_eq ia_4, o_fieldAddr fa_127_0 (by decide), loadA_eq ia_57, loadA_eq ia_127, a, he]
theorem c33 (hc : AbC cs off n l) (hc2 : IvC cs2 off2 m st) : LL.run 33 [shV r f 0 off n c, stV 1 off2 m c2, iv x] [.cells cs 3 true own, .cells cs2 1 true own2] = some ⟨.tuple #[.agg #[iv (valP r f n l m st x).1, iv (valP r f n l m st x).2], iv (valE r f n l m st x)], [], []⟩ := by
  refine go (by decide) ?_
  rw [run33 _ _ _ (by simp)]
  have a := fun bx => k21 r f 0 off n c 1 off2 m c2 (l := l) (st := st) (h := .cells cs 3 true own :: .cells cs2 1 true own2 :: bx) rfl rfl (by decide) hc hc2
  by_cases he : expE r f n l m st = 0
  · obtain ⟨S, ha, hm⟩ := exp_ok he
    cases hx : (decide (0 ≤ x) && decide (x ≤ 10000))
    · have h1 : valE r f n l m st x = 1 := by unfold valE; rw [if_neg (by simp [he]), if_pos hx]
      have h2 : valP r f n l m st x = (0, 0) := by unfold valP; rw [if_neg (by rw [h1]; decide)]
      rw [h1, h2]
      simp (maxSteps := 1000000) (disch := first | omega | decide | assumption | simp [scal]) [za_57, loadA_eq ia_29, o_build za_57 pl_57, sz_57, loadA_eq ia_57, want_some q33_6g2, a, k54, hx, he]
    · have hx' := hx
      simp only [Bool.and_eq_true, decide_eq_true_eq] at hx'
      have a2 := fun bx => k69 r f 0 off n c 1 off2 m c2 x (h := .cells cs 3 true own :: .cells cs2 1 true own2 :: bx) S rfl rfl (by decide) hc hc2 (by omega) hx'.1 hx'.2
      cases hk : (valS r f n l m st x).2.2
      · have h1 : valE r f n l m st x = 14 := by unfold valE; rw [if_neg (by simp [he]), if_neg (by simp [hx]), if_pos hk]
        have h2 : valP r f n l m st x = (0, 0) := by unfold valP; rw [if_neg (by rw [h1]; decide)]
        rw [h1, h2]
        generalize valS r f n l m st x = q at *
        obtain ⟨q1, q2, q3⟩ := q
        simp only at hk
        subst hk
        simp (maxSteps := 1000000) (disch := first | omega | decide | assumption | simp [scal]) [za_57, loadA_eq ia_29, o_build za_57 pl_57, sz_57, loadA_eq ia_57, want_some q33_6g2, a, k54, hx, a2, he]
      · have h1 : valE r f n l m st x = 0 := by unfold valE; rw [if_neg (by simp [he]), if_neg (by simp [hx]), if_neg (by simp [hk])]
        have h2 : valP r f n l m st x = ((valS r f n l m st x).1, (valS r f n l m st x).2.1) := by unfold valP; rw [if_pos h1]
        rw [h1, h2]
        generalize valS r f n l m st x = q at *
        obtain ⟨q1, q2, q3⟩ := q
        simp only at hk
        subst hk
        simp (maxSteps := 1000000) (disch := first | omega | decide | assumption | simp [scal]) [za_57, loadA_eq ia_29, o_build za_57 pl_57, sz_57, loadA_eq ia_57, want_some q33_6g2, a, k54, hx, a2, he]
  · have h1 : valE r f n l m st x = expE r f n l m st := by unfold valE; rw [if_pos he]
    have h2 : valP r f n l m st x = (0, 0) := by unfold valP; rw [if_neg (by rw [h1]; exact he)]
    rw [h1, h2]
    simp (maxSteps := 1000000) (disch := first | omega | decide | assumption | simp [scal]) [za_57, loadA_eq ia_29, o_build za_57 pl_57, sz_57, loadA_eq ia_57, want_some q33_6g2, a, he]
end
end Go.Proofs.Ytiafgimgcbmgaaa.bl

namespace Go.Proofs.Ytiafgimgcbmgaaa.bl
open Go.GE
set_option linter.unusedVariables false
set_option linter.unusedSimpArgs false
set_option maxRecDepth 100000
set_option maxHeartbeats 4000000
attribute [local simp] runOps_nil runOps_cons runOpsF_nil runOpsF_cons fstS_some fstF_some opStep_eq want_none oStep_true oStep_false fin_pure fin_read fin_alloc fin_write storeB wrN cellV addWr o_move o_assign o_pick o_alloc o_box o_load o_store o_nilCheck o_bin o_un o_extract o_callV o_callB o_callI callV_f callV_y callV_fc o_makeFunc partsA Instr.fill builtin_len builtin_max2 bin_add bin_sub bin_mul bin_quo bin_rem bin_lss bin_leq bin_gtr bin_geq bin_eql bin_neq un_neg un_not bin_shr bin_shl wrap_u64_id opd opds optAll putO nbeq nblt constOk isC ops sub cl cr co bodyOf thenS_normal thenS_ret thenS_exit thenS_goto afterN_normal afterN_ret afterN_exit afterN_goto condS_true condS_false blockS_normal blockS_ret blockS_exit blockS_goto headS normS normK_eq fixS_nil fixS_cons fix1 fixV emptyB keepO_nil keepO_cons roundC_normal roundC_exit roundC_ret roundC_goto sweep_eq sweepD rnm pickR pickW rootsB ptrT renT ptrFn renFn ptrB_flat ptrB_non renB_flat renB_non plainS_some drawS_some fpsOk disj unord range' dropTo enumT undef wrap_i64_id Value.cells mkCells ptrTo scal cellsAt rdN endS_ret resultsA Option.bind_some tupV finish reachN dep ptrL_eq ptrL renL_eq renL ptrV_bool ptrV_int ptrV_string ptrV_nilFunc ptrV_nilIface ptrV_nilPtr ptrV_ptr ptrV_nilSl ptrV_sl ptrV_iface ptrV_agg ptrV_tuple ptrV_func renV_bool renV_int renV_string renV_nilFunc renV_nilIface renV_nilPtr renV_ptr renV_nilSl renV_sl renV_iface renV_agg renV_tuple renV_func gotoS_goto gotoS_normal gotoS_exit gotoS_ret skip_seq sliceE bnd bndHi intOf optOpd keepT_nil keepT_cons keepC_t keepC_f lk_nil lk_cons lkC_t lkC_f has_nil has_cons hasC_t hasC_f rep_nil rep_cons repC_t repC_f put_eq putC_t putC_f mem_nil mem_cons memC_t memC_f idx_nil idx_cons idxC_t idxC_f reach_nil reach_cons reachC_t reachC_f
attribute [local simp] n35_1s n35_3s n35_6s n35_9s n35_10s n35_8s n35_11s n35_7s n35_5s n35_13s n35_16s n35_21s n35_23s n35_24s n35_22s n35_20s n35_28s n35_29s n35_27s n35_26s n35_30s n35_25s n35_19s n35_18s n35_18g n35_17s n35_15s n35_32s n35_33s n35_31s n35_14s n35_12s n35_4s n35_2s n35_0s Try.f35 n71_1s n71_3s n71_4s n71_2s n71_0s Try.f71 n70_1s n70_3s n70_6s n70_10s n70_13s n70_14s n70_12s n70_18s n70_19s n70_17s n70_16s n70_20s n70_15s n70_11s n70_9s n70_8s n70_8g n70_7s n70_5s n70_22s n70_23s n70_21s n70_4s n70_2s n70_0s Try.f70 n34_1s n34_3s n34_6s n34_9s n34_10s n34_8s n34_11s n34_7s n34_5s n34_13s n34_14s n34_12s n34_4s n34_2s n34_0s Try.f34
/-- the highest values at the hours of the absolutes -/
def higL (r f : Int) (n : Nat) (l : Nat → Ab) (m : Nat) (st : Nat → Int) (i : Nat) : List Int := (List.range i).map fun i => (valS r f n l m st (l i).h).2.1
noncomputable def higR (r f : Int) (n : Nat) (l : Nat → Ab) (m : Nat) (st : Nat → Int) : List Int := if expE r f n l m st = 0 then higL r f n l m st n else []
theorem higL_succ {r f : Int} {n : Nat} {l : Nat → Ab} {m : Nat} {st : Nat → Int} {i : Nat} : higL r f n l m st (i + 1) = higL r f n l m st i ++ [(valS r f n l m st (l i).h).2.1] := by simp [higL, List.range_succ]
theorem higL_len {r f : Int} {n : Nat} {l : Nat → Ab} {m : Nat} {st : Nat → Int} {i : Nat} : (higL r f n l m st i).length = i := by simp [higL]
abbrev cl71 (b : Nat) : Value := .func (.func 71) #[] #[pp b]
section
variable (r f : Int) (off n c off2 m c2 : Nat) (cs cs2 : List Value) (own own2 : Bool) (l : Nat → Ab) (st : Nat → Int)
theorem l35 (S : Sht r f n l) (hc : AbC cs off n l) (hc2 : IvC cs2 off2 m st) (hm : m ≤ 1000) : ∀ k i : Nat, i + k = n →
    lpB Try.prog LL ⟨35, 42, 2, none⟩ n35_18 n35_19 ⟨[(1, stV 1 off2 m c2), (2, pp 2), (7, wh 3 i), (8, iv i)], [.cells cs 3 true own, .cells cs2 1 true own2, shB r f 0 off n c, iB (higL r f n l m st i)], []⟩ =
      some (.exit 0, ⟨[(7, wh 2 n)], [.cells cs 3 true own, .cells cs2 1 true own2, iB (higL r f n l m st n)], []⟩) := by
  have hn := S.n40
  intro k
  induction k with
  | zero =>
    intro i hi
    obtain rfl : i = n := by omega
    rw [lpB_eq]
    simp only [iB]
    simp (maxSteps := 1000000) (disch := first | omega | decide | assumption | simp [scal]) [loadA_eq ia_29, o_fieldAddr fa_29_2 (by decide), loadA_eq ia_27, lenA_sl lk_27, o_indexAddrS es_27, o_fieldAddr fa_108_0 (by decide), loadA_eq ia_3, za_57, sz_57, o_fieldAddr fa_57_1 (by decide), o_indexAddrS es_25, ze_25, o_buildSlice es_25 ze_25 (by decide) ba_25_1, ap_25, builtin_append ni_25, loadA_eq ia_57]
  | succ k ih =>
    intro i hi
    have e1 : i < n := by omega
    have this := ih (i + 1) (by omega)
    obtain ⟨p2, p3, p4⟩ := hc i e1
    obtain ⟨o1, o2, _, _, _⟩ := S.ok i e1
    have a1 := fun bx => k69 r f 0 off n c 1 off2 m c2 (l i).h (h := .cells cs 3 true own :: .cells cs2 1 true own2 :: bx) S rfl rfl (by decide) hc hc2 hm o1 o2
    have hlen := higL_len (r := r) (f := f) (n := n) (l := l) (m := m) (st := st) (i := i)
    rw [higL_succ] at this
    rw [lpB_eq]
    generalize valS r f n l m st (l i).h = q at *
    generalize higL r f n l m st i = o at *
    have c1 := fun h b c rd => app_list (h := h) (b := b) (c := c) (k := 1) (by' := 8) (l := i) (cs := o.map iv) (new := [iv q.2.1]) (rd := rd) (by simp [hlen]) (by omega) (by omega) rfl
    simp only [cast1, iB, List.map_append, List.map_cons, List.map_nil] at this ⊢
    simp (maxSteps := 1000000) (disch := first | omega | decide | assumption | simp [scal]) [loadA_eq ia_29, o_fieldAddr fa_29_2 (by decide), loadA_eq ia_27, lenA_sl lk_27, o_indexAddrS es_27, o_fieldAddr fa_108_0 (by decide), loadA_eq ia_3, za_57, sz_57, o_fieldAddr fa_57_1 (by decide), o_indexAddrS es_25, ze_25, o_buildSlice es_25 ze_25 (by decide) ba_25_1, ap_25, builtin_append ni_25, loadA_eq ia_57, e1, p2, p3, p4, a1, append_some ap_25, srcCells, c1, this]
theorem c35 (hc : AbC cs off n l) (hc2 : IvC cs2 off2 m st) : LL.run 35 [shV r f 0 off n c, stV 1 off2 m c2] [.cells cs 3 true own, .cells cs2 1 true own2] = some ⟨.tuple #[wh 2 (higR r f n l m st).length, iv (expE r f n l m st)], [iB (higR r f n l m st)], []⟩ := by
  refine go (by decide) ?_
  rw [run35 _ _ _ (by simp)]
  have a := fun bx => k21 r f 0 off n c 1 off2 m c2 (l := l) (st := st) (h := .cells cs 3 true own :: .cells cs2 1 true own2 :: bx) rfl rfl (by decide) hc hc2
  unfold higR
  by_cases he : expE r f n l m st = 0
  · obtain ⟨S, ha, hm⟩ := exp_ok he
    rw [if_pos he, higL_len]
    have this := l35 r f off n c off2 m c2 cs cs2 own own2 l st S hc hc2 (by omega) n 0 (by omega)
    have h0 : higL r f n l m st 0 = [] := rfl
    rw [h0] at this
    simp only [Int.natCast_zero, iB, List.map_nil] at this ⊢
    simp (maxSteps := 1000000) (disch := first | omega | decide | assumption | simp [scal]) [loadA_eq ia_29, o_fieldAddr fa_29_2 (by decide), loadA_eq ia_27, lenA_sl lk_27, o_indexAddrS es_27, o_fieldAddr fa_108_0 (by decide), loadA_eq ia_3, za_57, sz_57, o_fieldAddr fa_57_1 (by decide), o_indexAddrS es_25, ze_25, o_buildSlice es_25 ze_25 (by decide) ba_25_1, ap_25, builtin_append ni_25, loadA_eq ia_57, a, he, this]
  · rw [if_neg he]
    simp only [iB]
    simp (maxSteps := 1000000) (disch := first | omega | decide | assumption | simp [scal]) [loadA_eq ia_29, o_fieldAddr fa_29_2 (by decide), loadA_eq ia_27, lenA_sl lk_27, o_indexAddrS es_27, o_fieldAddr fa_108_0 (by decide), loadA_eq ia_3, za_57, sz_57, o_fieldAddr fa_57_1 (by decide), o_indexAddrS es_25, ze_25, o_buildSlice es_25 ze_25 (by decide) ba_25_1, ap_25, builtin_append ni_25, loadA_eq ia_57, a, he]
theorem k71 (S : Sht r f n l) (hc : AbC cs off n l) (hc2 : IvC cs2 off2 m st) (ha : Asc m st) (hm : m ≤ 1000) (a : Ab) (A : OkA a) (rest : List Blk) :
    callH LL 71 [abV a, pp 1] (.cells cs 3 true own :: ptB r f 0 off n c 2 off2 m c2 :: .cells cs2 1 true own2 :: rest) = some ⟨iv (valS r f n l m st a.h).2.1, .cells cs 3 true own :: ptB r f 0 off n c 2 off2 m c2 :: .cells cs2 1 true own2 :: rest, [1, 0, 2], []⟩ := by
  have e : LL.run 71 [abV a, pp 0] [ptB r f 1 off n c 2 off2 m c2, .cells cs 3 true own, .cells cs2 1 true own2] = some ⟨iv (valS r f n l m st a.h).2.1, [], []⟩ := by
    refine go (by decide) ?_
    rw [run71 _ _ _ (by simp)]
    have a1 := fun b0 bx => k61 r f 1 off n c 2 off2 m c2 a.h (h := b0 :: .cells cs 3 true own :: .cells cs2 1 true own2 :: bx) S rfl rfl (by decide) hc hc2 ha hm A.h0 A.h1
    simp (maxSteps := 1000000) (disch := first | omega | decide | assumption | simp [scal]) [loadA_eq ia_115, o_fieldAddr fa_59_0 (by decide), loadA_eq ia_3, o_fieldK fk_127_0, o_fieldK fk_57_1, a1]
  refine callH_of (by intro _; first | trivial | rfl) ?_ (by simp)
  unfold callH0
  have hp : ([abV a, pp 1] : List Value).flatMap (ptrV dep) = [1] := rfl
  have hm : ∀ q : Nat, 20 < q → reach (.cells cs 3 true own :: ptB r f 0 off n c 2 off2 m c2 :: .cells cs2 1 true own2 :: rest) 0 q [1] [] = [1, 0, 2] := by
    intro q hq
    obtain ⟨q, rfl⟩ : ∃ j, q = j + 20 := ⟨q - 20, by omega⟩
    simp [reach_cons, reachC_t, reachC_f, reach_nil, rootsB, GE.mem, nblt, nbeq, ptrB, ptrV_sl, ptrV_int, dep]
  simp only [hp, hm reachN (by decide)]
  simp [optAll, renL, renV_ptr, dep, idx, nbeq, renB, renL_eq, renV_int, renV_sl, renV_agg, e, mergeB]
theorem l70 (S : Sht r f n l) (hc : AbC cs off n l) (hc2 : IvC cs2 off2 m st) (ha : Asc m st) (hm : m ≤ 1000) : ∀ k i : Nat, i + k = n →
    lpB Try.prog LL ⟨70, 22, 3, none⟩ n70_8 n70_9 ⟨[(1, cl71 1), (5, wh 3 i), (8, stV 0 off n c), (9, iv n), (10, iv i)], [.cells cs 3 true own, ptB r f 0 off n c 2 off2 m c2, .cells cs2 1 true own2, iB (higL r f n l m st i)], []⟩ =
      some (.exit 0, ⟨[(5, wh 3 n)], [.cells cs 3 true own, ptB r f 0 off n c 2 off2 m c2, .cells cs2 1 true own2, iB (higL r f n l m st n)], []⟩) := by
  have hn := S.n40
  intro k
  induction k with
  | zero =>
    intro i hi
    obtain rfl : i = n := by omega
    rw [lpB_eq]
    simp only [iB]
    simp (maxSteps := 1000000) (disch := first | omega | decide | assumption | simp [scal]) [lenA_sl lk_22, o_indexAddrS es_22, loadA_eq ia_59, za_59, sz_59, o_indexAddrS es_25, ze_25, o_buildSlice es_25 ze_25 (by decide) ba_25_1, ap_25, builtin_append ni_25]
  | succ k ih =>
    intro i hi
    have e1 : i < n := by omega
    have this := ih (i + 1) (by omega)
    obtain ⟨p2, p3, p4⟩ := hc i e1
    have a1 := k71 r f off n c off2 m c2 cs cs2 own own2 l st S hc hc2 ha hm (l i) (S.ok i e1)
    have hlen := higL_len (r := r) (f := f) (n := n) (l := l) (m := m) (st := st) (i := i)
    rw [higL_succ] at this
    rw [lpB_eq]
    generalize valS r f n l m st (l i).h = q at *
    generalize higL r f n l m st i = o at *
    have c1 := fun h b c rd => app_list (h := h) (b := b) (c := c) (k := 1) (by' := 8) (l := i) (cs := o.map iv) (new := [iv q.2.1]) (rd := rd) (by simp [hlen]) (by omega) (by omega) rfl
    simp only [cast1, iB, List.map_append, List.map_cons, List.map_nil] at this ⊢
    simp (maxSteps := 1000000) (disch := first | omega | decide | assumption | simp [scal]) [lenA_sl lk_22, o_indexAddrS es_22, loadA_eq ia_59, za_59, sz_59, o_indexAddrS es_25, ze_25, o_buildSlice es_25 ze_25 (by decide) ba_25_1, ap_25, builtin_append ni_25, e1, p2, p3, p4, a1, append_some ap_25, srcCells, c1, this]
theorem k70 (S : Sht r f n l) (hc : AbC cs off n l) (hc2 : IvC cs2 off2 m st) (ha : Asc m st) (hm : m ≤ 1000) (b2 : Blk) (rest : List Blk) :
    callH LL 70 [stV 0 off n c, cl71 3] (.cells cs 3 true own :: .cells cs2 1 true own2 :: b2 :: ptB r f 0 off n c 1 off2 m c2 :: rest) =
      some ⟨wh (rest.length + 4) n, .cells cs 3 true own :: .cells cs2 1 true own2 :: b2 :: ptB r f 0 off n c 1 off2 m c2 :: (rest ++ [iB (higL r f n l m st n)]), [0, 3, 1], []⟩ := by
  have e : LL.run 70 [stV 0 off n c, cl71 1] [.cells cs 3 true own, ptB r f 0 off n c 2 off2 m c2, .cells cs2 1 true own2] = some ⟨wh 3 n, [iB (higL r f n l m st n)], []⟩ := by
    refine go (by decide) ?_
    rw [run70 _ _ _ (by simp)]
    have this := l70 r f off n c off2 m c2 cs cs2 own own2 l st S hc hc2 ha hm n 0 (by omega)
    have h0 : higL r f n l m st 0 = [] := rfl
    rw [h0] at this
    simp only [Int.natCast_zero, iB, List.map_nil] at this ⊢
    simp (maxSteps := 1000000) (disch := first | omega | decide | assumption | simp [scal]) [lenA_sl lk_22, o_indexAddrS es_22, loadA_eq ia_59, za_59, sz_59, o_indexAddrS es_25, ze_25, o_buildSlice es_25 ze_25 (by decide) ba_25_1, ap_25, builtin_append ni_25, this]
  refine callH_of (by intro _; first | trivial | rfl) ?_ (by simp)
  unfold callH0
  have hp : ([stV 0 off n c, cl71 3] : List Value).flatMap (ptrV dep) = [0, 3] := rfl
  have hm : ∀ q : Nat, 20 < q → reach (.cells cs 3 true own :: .cells cs2 1 true own2 :: b2 :: ptB r f 0 off n c 1 off2 m c2 :: rest) 0 q [0, 3] [] = [0, 3, 1] := by
    intro q hq
    obtain ⟨q, rfl⟩ : ∃ j, q = j + 20 := ⟨q - 20, by omega⟩
    simp [reach_cons, reachC_t, reachC_f, reach_nil, rootsB, GE.mem, nblt, nbeq, ptrB, ptrV_sl, ptrV_int, dep]
  simp only [hp, hm reachN (by decide)]
  simp only [iB] at e ⊢
  simp [optAll, renL, renV_ptr, renV_func, renFn, dep, idx, nbeq, renB, renL_eq, renV_int, renV_sl, renV_agg, e, mergeB, nblt]
theorem c34 (hc : AbC cs off n l) (hc2 : IvC cs2 off2 m st) : LL.run 34 [shV r f 0 off n c, stV 1 off2 m c2] [.cells cs 3 true own, .cells cs2 1 true own2] = some ⟨.tuple #[wh 2 (higR r f n l m st).length, iv (expE r f n l m st)], [iB (higR r f n l m st)], []⟩ := by
  refine go (by decide) ?_
  rw [run34 _ _ _ (by simp)]
  unfold higR
  by_cases he : expE r f n l m st = 0
  · have a := fun bx => k53a r f 0 off n c 1 off2 m c2 (h := .cells cs 3 true own :: .cells cs2 1 true own2 :: bx) rfl rfl (by decide) hc hc2 he
    obtain ⟨S, ha, hm⟩ := exp_ok he
    rw [if_pos he, higL_len]
    have a2 := k70 r f off n c off2 m c2 cs cs2 own own2 l st S hc hc2 ha (by omega)
    simp only [iB] at a2 ⊢
    simp (maxSteps := 1000000) (disch := first | omega | decide | assumption | simp [scal]) [loadA_eq ia_24, za_115, sz_115, o_fieldAddr fa_24_2 (by decide), loadA_eq ia_22, loadA_eq ia_115, a, he, a2]
  · have a := fun bx => k53b r f 0 off n c 1 off2 m c2 (h := .cells cs 3 true own :: .cells cs2 1 true own2 :: bx) rfl rfl (by decide) hc hc2 he
    rw [if_neg he]
    simp only [iB]
    simp (maxSteps := 1000000) (disch := first | omega | decide | assumption | simp [scal]) [loadA_eq ia_24, za_115, sz_115, o_fieldAddr fa_24_2 (by decide), loadA_eq ia_22, loadA_eq ia_115, a, he]
end
end Go.Proofs.Ytiafgimgcbmgaaa.bl

namespace Go.Proofs.Ytiafgimgcbmgaaa.bl
open Go.GE
set_option linter.unusedVariables false
set_option linter.unusedSimpArgs false
set_option maxRecDepth 100000
set_option maxHeartbeats 4000000
attribute [local simp] runOps_nil runOps_cons runOpsF_nil runOpsF_cons fstS_some fstF_some opStep_eq want_none oStep_true oStep_false fin_pure fin_read fin_alloc fin_write storeB wrN cellV addWr o_move o_assign o_pick o_alloc o_box o_load o_store o_nilCheck o_bin o_un o_extract o_callV o_callB o_callI callV_f callV_y callV_fc o_makeFunc partsA Instr.fill builtin_len builtin_max2 bin_add bin_sub bin_mul bin_quo bin_rem bin_lss bin_leq bin_gtr bin_geq bin_eql bin_neq un_neg un_not bin_shr bin_shl wrap_u64_id opd opds optAll putO nbeq nblt constOk isC ops sub cl cr co bodyOf thenS_normal thenS_ret thenS_exit thenS_goto afterN_normal afterN_ret afterN_exit afterN_goto condS_true condS_false blockS_normal blockS_ret blockS_exit blockS_goto headS normS normK_eq fixS_nil fixS_cons fix1 fixV emptyB keepO_nil keepO_cons roundC_normal roundC_exit roundC_ret roundC_goto sweep_eq sweepD rnm pickR pickW rootsB ptrT renT ptrFn renFn ptrB_flat ptrB_non renB_flat renB_non plainS_some drawS_some fpsOk disj unord range' dropTo enumT undef wrap_i64_id Value.cells mkCells ptrTo scal cellsAt rdN endS_ret resultsA Option.bind_some tupV finish reachN dep ptrL_eq ptrL renL_eq renL ptrV_bool ptrV_int ptrV_string ptrV_nilFunc ptrV_nilIface ptrV_nilPtr ptrV_ptr ptrV_nilSl ptrV_sl ptrV_iface ptrV_agg ptrV_tuple ptrV_func renV_bool renV_int renV_string renV_nilFunc renV_nilIface renV_nilPtr renV_ptr renV_nilSl renV_sl renV_iface renV_agg renV_tuple renV_func gotoS_goto gotoS_normal gotoS_exit gotoS_ret skip_seq sliceE bnd bndHi intOf optOpd keepT_nil keepT_cons keepC_t keepC_f lk_nil lk_cons lkC_t lkC_f has_nil has_cons hasC_t hasC_f rep_nil rep_cons repC_t repC_f put_eq putC_t putC_f mem_nil mem_cons memC_t memC_f idx_nil idx_cons idxC_t idxC_f reach_nil reach_cons reachC_t reachC_f
attribute [local simp] n36_1s n36_3s n36_6s n36_9s n36_10s n36_8s n36_11s n36_7s n36_5s n36_13s n36_16s n36_20s n36_23s n36_24s n36_22s n36_28s n36_30s n36_32s n36_33s n36_31s n36_29s n36_27s n36_26s n36_34s n36_25s n36_21s n36_19s n36_18s n36_18g n36_17s n36_15s n36_36s n36_37s n36_35s n36_14s n36_12s n36_4s n36_2s n36_0s Try.f36 n37_1s n37_3s n37_6s n37_9s n37_10s n37_8s n37_11s n37_7s n37_5s n37_13s n37_16s n37_21s n37_23s n37_24s n37_22s n37_20s n37_28s n37_30s n37_31s n37_29s n37_27s n37_26s n37_32s n37_25s n37_19s n37_18s n37_18g n37_17s n37_15s n37_34s n37_35s n37_33s n37_14s n37_12s n37_4s n37_2s n37_0s Try.f37
/-- the absolutes without which steps explain a sheet -/
def susL (r f : Int) (n : Nat) (l : Nat → Ab) (m : Nat) (st : Nat → Int) (i : Nat) : List Int := ((List.range i).filter fun (i : Nat) => decide (1 < n) && !clashS r f n l m st i).map fun (i : Nat) => (i : Int)
noncomputable def susR (r f : Int) (n : Nat) (l : Nat → Ab) (m : Nat) (st : Nat → Int) : List Int := if ptdE r f n l m st = 0 then susL r f n l m st n else []
theorem susL_len {r f : Int} {n : Nat} {l : Nat → Ab} {m : Nat} {st : Nat → Int} {i : Nat} : (susL r f n l m st i).length ≤ i := by
  unfold susL
  rw [List.length_map]
  have := List.length_filter_le (fun (i : Nat) => decide (1 < n) && !clashS r f n l m st i) (List.range i)
  simpa using this
theorem susL_succ {r f : Int} {n : Nat} {l : Nat → Ab} {m : Nat} {st : Nat → Int} {i : Nat} : susL r f n l m st (i + 1) = if (decide (1 < n) && !clashS r f n l m st i) = true then susL r f n l m st i ++ [(i : Int)] else susL r f n l m st i := by
  unfold susL
  rw [List.range_succ, List.filter_append, List.filter_cons]
  split <;> simp
theorem chk_ne {r f : Int} {n : Nat} {l : Nat → Ab} : chkS r f n l ≠ 13 := by
  have key : ∀ k i last, chkL l k i last ≠ 13 := by
    intro k
    induction k with
    | zero => intro i last; simp [chkL]
    | succ k ih =>
      intro i last
      unfold chkL
      split
      · decide
      · split
        · decide
        · exact ih _ _
  unfold chkS
  split
  · decide
  · split
    · decide
    · split
      · decide
      · exact key _ _ _
theorem ptd_ne {r f : Int} {n : Nat} {l : Nat → Ab} {m : Nat} {st : Nat → Int} : ptdE r f n l m st ≠ 13 := by
  have key : ∀ k i last, stpL st k i last ≠ 13 := by
    intro k
    induction k with
    | zero => intro i last; simp [stpL]
    | succ k ih =>
      intro i last
      unfold stpL
      split
      · decide
      · split
        · decide
        · exact ih _ _
  unfold ptdE
  split
  · exact chk_ne
  · unfold stpS
    split
    · decide
    · exact key _ _ _
section
variable (r f : Int) (off n c off2 m c2 : Nat) (cs cs2 : List Value) (own own2 : Bool) (l : Nat → Ab) (st : Nat → Int)
theorem l36 (S : Sht r f n l) (hc : AbC cs off n l) (hc2 : IvC cs2 off2 m st) (ha : Asc m st) (hm : m ≤ 1000) : ∀ k i : Nat, i + k = n →
    lpB Try.prog LL ⟨36, 40, 2, none⟩ n36_18 n36_19 ⟨[(2, pp 2), (6, pp 3), (8, wh 4 (susL r f n l m st i).length), (21, iv n), (22, iv i)], [.cells cs 3 true own, .cells cs2 1 true own2, shB r f 0 off n c, ptB r f 0 off n c 1 off2 m c2, iB (susL r f n l m st i)], []⟩ =
      some (.exit 0, ⟨[(8, wh 2 (susL r f n l m st n).length)], [.cells cs 3 true own, .cells cs2 1 true own2, iB (susL r f n l m st n)], []⟩) := by
  have hn := S.n40
  intro k
  induction k with
  | zero =>
    intro i hi
    obtain rfl : i = n := by omega
    rw [lpB_eq]
    simp only [iB]
    simp (maxSteps := 1000000) (disch := first | omega | decide | assumption | simp [scal]) [loadA_eq ia_24, za_115, sz_115, o_fieldAddr fa_24_2 (by decide), loadA_eq ia_22, lenA_sl lk_22, loadA_eq ia_115, o_indexAddrS es_25, ze_25, o_buildSlice es_25 ze_25 (by decide) ba_25_1, ap_25, builtin_append ni_25, want_some q36_30g4]
  | succ k ih =>
    intro i hi
    have e1 : i < n := by omega
    have this := ih (i + 1) (by omega)
    have a1 := fun bx => k73 r f 0 off n c 1 off2 m c2 (i : Int) (h := .cells cs 3 true own :: .cells cs2 1 true own2 :: bx) S rfl rfl (by decide) hc hc2 ha hm
    have hlen := susL_len (r := r) (f := f) (n := n) (l := l) (m := m) (st := st) (i := i)
    rw [susL_succ] at this
    rw [lpB_eq]
    generalize susL r f n l m st n = fin at *
    generalize susL r f n l m st i = o at *
    have c1 := fun h b c rd => app_list (h := h) (b := b) (c := c) (k := 1) (by' := 8) (l := o.length) (cs := o.map iv) (new := [iv i]) (rd := rd) (by simp) (by omega) (by omega) rfl
    simp only [cast1, iB] at this ⊢
    by_cases w1 : 1 < n
    · have w1' : (1 : Int) < n := by omega
      rcases Bool.eq_false_or_eq_true (clashS r f n l m st i) with w2 | w2
      · rw [w2] at a1
        rw [if_neg (by simp [w2])] at this
        simp (maxSteps := 1000000) (disch := first | omega | decide | assumption | simp [scal]) [loadA_eq ia_24, za_115, sz_115, o_fieldAddr fa_24_2 (by decide), loadA_eq ia_22, lenA_sl lk_22, loadA_eq ia_115, o_indexAddrS es_25, ze_25, o_buildSlice es_25 ze_25 (by decide) ba_25_1, ap_25, builtin_append ni_25, want_some q36_30g4, e1, w1, w1', a1, this]
      · rw [w2] at a1
        rw [if_pos (by simp [w1, w2])] at this
        simp only [List.map_append, List.map_cons, List.map_nil, List.length_append, List.length_cons, List.length_nil, Nat.zero_add] at this
        simp (maxSteps := 1000000) (disch := first | omega | decide | assumption | simp [scal]) [loadA_eq ia_24, za_115, sz_115, o_fieldAddr fa_24_2 (by decide), loadA_eq ia_22, lenA_sl lk_22, loadA_eq ia_115, o_indexAddrS es_25, ze_25, o_buildSlice es_25 ze_25 (by decide) ba_25_1, ap_25, builtin_append ni_25, want_some q36_30g4, e1, w1, w1', a1, append_some ap_25, srcCells, c1, this]
    · have w1' : ¬ (1 : Int) < n := by omega
      rw [if_neg (by simp [w1])] at this
      simp (maxSteps := 1000000) (disch := first | omega | decide | assumption | simp [scal]) [loadA_eq ia_24, za_115, sz_115, o_fieldAddr fa_24_2 (by decide), loadA_eq ia_22, lenA_sl lk_22, loadA_eq ia_115, o_indexAddrS es_25, ze_25, o_buildSlice es_25 ze_25 (by decide) ba_25_1, ap_25, builtin_append ni_25, want_some q36_30g4, e1, w1, w1', this]
theorem c36 (hc : AbC cs off n l) (hc2 : IvC cs2 off2 m st) : LL.run 36 [shV r f 0 off n c, stV 1 off2 m c2] [.cells cs 3 true own, .cells cs2 1 true own2] = some ⟨.tuple #[wh 2 (susR r f n l m st).length, iv (ptdE r f n l m st)], [iB (susR r f n l m st)], []⟩ := by
  refine go (by decide) ?_
  rw [run36 _ _ _ (by simp)]
  unfold susR
  by_cases he : ptdE r f n l m st = 0
  · have a := fun bx => k72a r f 0 off n c 1 off2 m c2 (h := .cells cs 3 true own :: .cells cs2 1 true own2 :: bx) rfl rfl (by decide) hc hc2 he
    obtain ⟨S, ha, hm⟩ := ptd_chk he
    rw [if_pos he]
    have this := l36 r f off n c off2 m c2 cs cs2 own own2 l st S hc hc2 ha (by omega) n 0 (by omega)
    have h0 : susL r f n l m st 0 = [] := rfl
    rw [h0] at this
    simp only [Int.natCast_zero, iB, List.map_nil, List.length_nil] at this ⊢
    simp (maxSteps := 1000000) (disch := first | omega | decide | assumption | simp [scal]) [loadA_eq ia_24, za_115, sz_115, o_fieldAddr fa_24_2 (by decide), loadA_eq ia_22, lenA_sl lk_22, loadA_eq ia_115, o_indexAddrS es_25, ze_25, o_buildSlice es_25 ze_25 (by decide) ba_25_1, ap_25, builtin_append ni_25, want_some q36_30g4, a, he, this]
  · have a := fun bx => k72b r f 0 off n c 1 off2 m c2 (h := .cells cs 3 true own :: .cells cs2 1 true own2 :: bx) rfl rfl (by decide) hc hc2 he
    rw [if_neg he]
    simp only [iB]
    simp (maxSteps := 1000000) (disch := first | omega | decide | assumption | simp [scal]) [loadA_eq ia_24, za_115, sz_115, o_fieldAddr fa_24_2 (by decide), loadA_eq ia_22, lenA_sl lk_22, loadA_eq ia_115, o_indexAddrS es_25, ze_25, o_buildSlice es_25 ze_25 (by decide) ba_25_1, ap_25, builtin_append ni_25, want_some q36_30g4, a, he]
theorem l37 (S : Sht r f n l) (hc : AbC cs off n l) (hc2 : IvC cs2 off2 m st) (hm : m ≤ 1000) : ∀ k i : Nat, i + k = n →
    lpB Try.prog LL ⟨37, 42, 2, none⟩ n37_18 n37_19 ⟨[(1, stV 1 off2 m c2), (2, pp 2), (7, wh 3 (susL r f n l m st i).length), (8, iv i)], [.cells cs 3 true own, .cells cs2 1 true own2, shB r f 0 off n c, iB (susL r f n l m st i)], []⟩ =
      some (.exit 0, ⟨[(7, wh 2 (susL r f n l m st n).length)], [.cells cs 3 true own, .cells cs2 1 true own2, iB (susL r f n l m st n)], []⟩) := by
  have hn := S.n40
  intro k
  induction k with
  | zero =>
    intro i hi
    obtain rfl : i = n := by omega
    rw [lpB_eq]
    simp only [iB]
    simp (maxSteps := 1000000) (disch := first | omega | decide | assumption | simp [scal]) [loadA_eq ia_29, o_fieldAddr fa_29_2 (by decide), loadA_eq ia_27, lenA_sl lk_27, o_indexAddrS es_25, ze_25, o_buildSlice es_25 ze_25 (by decide) ba_25_1, ap_25, builtin_append ni_25, want_some q37_6g2, want_some q37_28g4]
  | succ k ih =>
    intro i hi
    have e1 : i < n := by omega
    have this := ih (i + 1) (by omega)
    have a1 := fun bx => k55 r f 0 off n c 1 off2 m c2 (i : Int) (h := .cells cs 3 true own :: .cells cs2 1 true own2 :: bx) S rfl rfl (by decide) hc hc2 hm
    have hlen := susL_len (r := r) (f := f) (n := n) (l := l) (m := m) (st := st) (i := i)
    rw [susL_succ] at this
    rw [lpB_eq]
    generalize susL r f n l m st n = fin at *
    generalize susL r f n l m st i = o at *
    have c1 := fun h b c rd => app_list (h := h) (b := b) (c := c) (k := 1) (by' := 8) (l := o.length) (cs := o.map iv) (new := [iv i]) (rd := rd) (by simp) (by omega) (by omega) rfl
    simp only [cast1, iB] at this ⊢
    by_cases w1 : 1 < n
    · have w1' : (1 : Int) < n := by omega
      rcases Bool.eq_false_or_eq_true (clashS r f n l m st i) with w2 | w2
      · rw [w2] at a1
        rw [if_neg (by simp [w2])] at this
        simp (maxSteps := 1000000) (disch := first | omega | decide | assumption | simp [scal]) [loadA_eq ia_29, o_fieldAddr fa_29_2 (by decide), loadA_eq ia_27, lenA_sl lk_27, o_indexAddrS es_25, ze_25, o_buildSlice es_25 ze_25 (by decide) ba_25_1, ap_25, builtin_append ni_25, want_some q37_6g2, want_some q37_28g4, e1, w1, w1', a1, this]
      · rw [w2] at a1
        rw [if_pos (by simp [w1, w2])] at this
        simp only [List.map_append, List.map_cons, List.map_nil, List.length_append, List.length_cons, List.length_nil, Nat.zero_add] at this
        simp (maxSteps := 1000000) (disch := first | omega | decide | assumption | simp [scal]) [loadA_eq ia_29, o_fieldAddr fa_29_2 (by decide), loadA_eq ia_27, lenA_sl lk_27, o_indexAddrS es_25, ze_25, o_buildSlice es_25 ze_25 (by decide) ba_25_1, ap_25, builtin_append ni_25, want_some q37_6g2, want_some q37_28g4, e1, w1, w1', a1, append_some ap_25, srcCells, c1, this]
    · have w1' : ¬ (1 : Int) < n := by omega
      rw [if_neg (by simp [w1])] at this
      simp (maxSteps := 1000000) (disch := first | omega | decide | assumption | simp [scal]) [loadA_eq ia_29, o_fieldAddr fa_29_2 (by decide), loadA_eq ia_27, lenA_sl lk_27, o_indexAddrS es_25, ze_25, o_buildSlice es_25 ze_25 (by decide) ba_25_1, ap_25, builtin_append ni_25, want_some q37_6g2, want_some q37_28g4, e1, w1, w1', this]
theorem c37 (hc : AbC cs off n l) (hc2 : IvC cs2 off2 m st) : LL.run 37 [shV r f 0 off n c, stV 1 off2 m c2] [.cells cs 3 true own, .cells cs2 1 true own2] = some ⟨.tuple #[wh 2 (susR r f n l m st).length, iv (ptdE r f n l m st)], [iB (susR r f n l m st)], []⟩ := by
  refine go (by decide) ?_
  rw [run37 _ _ _ (by simp)]
  have a := fun bx => k21 r f 0 off n c 1 off2 m c2 (l := l) (st := st) (h := .cells cs 3 true own :: .cells cs2 1 true own2 :: bx) rfl rfl (by decide) hc hc2
  have hne := ptd_ne (r := r) (f := f) (n := n) (l := l) (m := m) (st := st)
  unfold susR
  by_cases he : ptdE r f n l m st = 0
  · obtain ⟨S, ha, hm⟩ := ptd_chk he
    rw [if_pos he]
    have this := l37 r f off n c off2 m c2 cs cs2 own own2 l st S hc hc2 (by omega) n 0 (by omega)
    have h0 : susL r f n l m st 0 = [] := rfl
    rw [h0] at this
    simp only [Int.natCast_zero, iB, List.map_nil, List.length_nil] at this ⊢
    rcases Bool.eq_false_or_eq_true (clashS r f n l m st (-1)) with w | w
    · have hx : expE r f n l m st = 13 := by unfold expE; rw [if_neg (by simp [he]), if_pos w]
      rw [hx] at a
      simp (maxSteps := 1000000) (disch := first | omega | decide | assumption | simp [scal]) [loadA_eq ia_29, o_fieldAddr fa_29_2 (by decide), loadA_eq ia_27, lenA_sl lk_27, o_indexAddrS es_25, ze_25, o_buildSlice es_25 ze_25 (by decide) ba_25_1, ap_25, builtin_append ni_25, want_some q37_6g2, want_some q37_28g4, a, he, this]
    · have hx : expE r f n l m st = 0 := by unfold expE; rw [if_neg (by simp [he]), if_neg (by simp [w])]
      rw [hx] at a
      simp (maxSteps := 1000000) (disch := first | omega | decide | assumption | simp [scal]) [loadA_eq ia_29, o_fieldAddr fa_29_2 (by decide), loadA_eq ia_27, lenA_sl lk_27, o_indexAddrS es_25, ze_25, o_buildSlice es_25 ze_25 (by decide) ba_25_1, ap_25, builtin_append ni_25, want_some q37_6g2, want_some q37_28g4, a, he, this]
  · have hx : expE r f n l m st = ptdE r f n l m st := by unfold expE; rw [if_pos he]
    rw [hx] at a
    rw [if_neg he]
    simp only [iB]
    simp (maxSteps := 1000000) (disch := first | omega | decide | assumption | simp [scal]) [loadA_eq ia_29, o_fieldAddr fa_29_2 (by decide), loadA_eq ia_27, lenA_sl lk_27, o_indexAddrS es_25, ze_25, o_buildSlice es_25 ze_25 (by decide) ba_25_1, ap_25, builtin_append ni_25, want_some q37_6g2, want_some q37_28g4, a, he, hne]
end
end Go.Proofs.Ytiafgimgcbmgaaa.bl

namespace Go.Proofs.Ytiafgimgcbmgaaa.bl
open Go.GE
set_option linter.unusedVariables false
set_option linter.unusedSimpArgs false
set_option maxRecDepth 100000
set_option maxHeartbeats 4000000
attribute [local simp] runOps_nil runOps_cons runOpsF_nil runOpsF_cons fstS_some fstF_some opStep_eq want_none oStep_true oStep_false fin_pure fin_read fin_alloc fin_write storeB wrN cellV addWr o_move o_assign o_pick o_alloc o_box o_load o_store o_nilCheck o_bin o_un o_extract o_callV o_callB o_callI callV_f callV_y callV_fc o_makeFunc partsA Instr.fill builtin_len builtin_max2 bin_add bin_sub bin_mul bin_quo bin_rem bin_lss bin_leq bin_gtr bin_geq bin_eql bin_neq un_neg un_not bin_shr bin_shl wrap_u64_id opd opds optAll putO nbeq nblt constOk isC ops sub cl cr co bodyOf thenS_normal thenS_ret thenS_exit thenS_goto afterN_normal afterN_ret afterN_exit afterN_goto condS_true condS_false blockS_normal blockS_ret blockS_exit blockS_goto headS normS normK_eq fixS_nil fixS_cons fix1 fixV emptyB keepO_nil keepO_cons roundC_normal roundC_exit roundC_ret roundC_goto sweep_eq sweepD rnm pickR pickW rootsB ptrT renT ptrFn renFn ptrB_flat ptrB_non renB_flat renB_non plainS_some drawS_some fpsOk disj unord range' dropTo enumT undef wrap_i64_id Value.cells mkCells ptrTo scal cellsAt rdN endS_ret resultsA Option.bind_some tupV finish reachN dep ptrL_eq ptrL renL_eq renL ptrV_bool ptrV_int ptrV_string ptrV_nilFunc ptrV_nilIface ptrV_nilPtr ptrV_ptr ptrV_nilSl ptrV_sl ptrV_iface ptrV_agg ptrV_tuple ptrV_func renV_bool renV_int renV_string renV_nilFunc renV_nilIface renV_nilPtr renV_ptr renV_nilSl renV_sl renV_iface renV_agg renV_tuple renV_func gotoS_goto gotoS_normal gotoS_exit gotoS_ret skip_seq sliceE bnd bndHi intOf optOpd keepT_nil keepT_cons keepC_t keepC_f lk_nil lk_cons lkC_t lkC_f has_nil has_cons hasC_t hasC_f rep_nil rep_cons repC_t repC_f put_eq putC_t putC_f mem_nil mem_cons memC_t memC_f idx_nil idx_cons idxC_t idxC_f reach_nil reach_cons reachC_t reachC_f
attribute [local simp] n6_1s n6_4s n6_7s n6_8s n6_6s n6_9s n6_5s n6_3s n6_11s n6_13s n6_15s n6_17s n6_19s n6_21s n6_23s n6_25s n6_26s n6_24s n6_22s n6_20s n6_18s n6_16s n6_14s n6_12s n6_10s n6_2s n6_0s Try.f6
theorem g57 : Try.prog.eqGuardType Try.prog.depth 57 = false := by kernel_rfl
theorem s57 : Try.prog.stoodInHeld 57 = false := by kernel_rfl
theorem part3 (cs : Array Value) (o : Nat) : partA Try.prog 3 cs o = cs[o]? := by
  have h : ∃ i, Try.prog.info? 3 = some i := ⟨_, rfl⟩
  obtain ⟨i, hi⟩ := h
  unfold partA
  rw [Try.underlying3, hi]
theorem eq57 {cst : Bool} (a b : Int) : binA Try.prog .eql 57 cst (.agg #[iv a, iv b]) (.agg #[iv a, iv b]) = some (.bool true) := by
  simp [binA, g57, eqA, Try.underlying57, s57, eqFs, part3, Try.underlying3]
section
variable (r f : Int) (b1 off n c b2 off2 m c2 : Nat) {cs cs2 : List Value} {own own2 : Bool} {l : Nat → Ab} {st : Nat → Int} (x : Int) {h : List Blk}
theorem k29 (hb : h[b1]? = some (.cells cs 3 true own)) (hb2 : h[b2]? = some (.cells cs2 1 true own2)) (hne : b1 ≠ b2) (hc : AbC cs off n l) (hc2 : IvC cs2 off2 m st) :
    callH LL 29 [shV r f b1 off n c, stV b2 off2 m c2, iv x] h = some ⟨.tuple #[.agg #[iv (valP r f n l m st x).1, iv (valP r f n l m st x).2], iv (valE r f n l m st x)], h, [b1, b2], []⟩ :=
  callH_2 rfl hb hb2 hne noIdB_flat noIdB_flat (sv_ren r f b1 off n c b2 off2 m c2 x hne) (c29 r f off n c off2 m c2 cs cs2 own own2 x l st hc hc2) fun _ => rfl
theorem k33 (hb : h[b1]? = some (.cells cs 3 true own)) (hb2 : h[b2]? = some (.cells cs2 1 true own2)) (hne : b1 ≠ b2) (hc : AbC cs off n l) (hc2 : IvC cs2 off2 m st) :
    callH LL 33 [shV r f b1 off n c, stV b2 off2 m c2, iv x] h = some ⟨.tuple #[.agg #[iv (valP r f n l m st x).1, iv (valP r f n l m st x).2], iv (valE r f n l m st x)], h, [b1, b2], []⟩ :=
  callH_2 rfl hb hb2 hne noIdB_flat noIdB_flat (sv_ren r f b1 off n c b2 off2 m c2 x hne) (c33 r f off n c off2 m c2 cs cs2 own own2 x l st hc hc2) fun _ => rfl
theorem kList {F : FuncId} {y : List Int} {e : Int} (hb : h[b1]? = some (.cells cs 3 true own)) (hb2 : h[b2]? = some (.cells cs2 1 true own2)) (hne : b1 ≠ b2)
    (he : LL.run F [shV r f 0 off n c, stV 1 off2 m c2] [.cells cs 3 true own, .cells cs2 1 true own2] = some ⟨.tuple #[wh 2 y.length, iv e], [iB y], []⟩) (hk : idle LL F [shV r f b1 off n c, stV b2 off2 m c2]) :
    callH LL F [shV r f b1 off n c, stV b2 off2 m c2] h = some ⟨.tuple #[wh h.length y.length, iv e], h ++ [iB y], [b1, b2], []⟩ :=
  callN_2 rfl hb hb2 hne noIdB_flat noIdB_flat (ss_ren r f b1 off n c b2 off2 m c2 hne) he (by intro b hb; simp at hb; subst hb; exact iB_noId) (by simp [renV, dep, nblt, optAll]) hk
end
theorem higR_len {r f : Int} {n : Nat} {l : Nat → Ab} {m : Nat} {st : Nat → Int} : (higR r f n l m st).length ≤ n := by
  unfold higR; split
  · rw [higL_len]; exact Nat.le_refl _
  · simp
theorem susR_len {r f : Int} {n : Nat} {l : Nat → Ab} {m : Nat} {st : Nat → Int} : (susR r f n l m st).length ≤ n := by
  unfold susR; split
  · exact susL_len
  · simp
section
variable (r f : Int) (off n c off2 m c2 : Nat) {cs cs2 : List Value} {own own2 : Bool} {l : Nat → Ab} {st : Nat → Int} (x : Int)
theorem c6 (hc : AbC cs off n l) (hc2 : IvC cs2 off2 m st) : LL.run 6 [shV r f 0 off n c, stV 1 off2 m c2, iv x] [.cells cs 3 true own, .cells cs2 1 true own2] = some ⟨.bool true, [], []⟩ := by
  refine go (by decide) ?_
  rw [run6 _ _ _ (by simp)]
  by_cases h1 : 60 < n
  · have h1' : (60 : Int) < n := by omega
    simp (maxSteps := 1000000) (disch := first | omega | decide | assumption | simp [scal]) [o_fieldAddr fa_24_2 (by decide), loadA_eq ia_22, lenA_sl lk_22, lenA_sl lk_25, loadA_eq ia_24, za_29, sz_29, za_57, sz_57, loadA_eq ia_29, loadA_eq ia_57, want_some q6_4g4, want_some q6_25g3, want_some q6_25g8, want_some q6_25g13, want_some q6_25g18, want_some q6_25g23, want_some q6_25g28, k15, h1, h1']
  have h1' : ¬ (60 : Int) < n := by omega
  by_cases h2 : 60 < m
  · have h2' : (60 : Int) < m := by omega
    simp (maxSteps := 1000000) (disch := first | omega | decide | assumption | simp [scal]) [o_fieldAddr fa_24_2 (by decide), loadA_eq ia_22, lenA_sl lk_22, lenA_sl lk_25, loadA_eq ia_24, za_29, sz_29, za_57, sz_57, loadA_eq ia_29, loadA_eq ia_57, want_some q6_4g4, want_some q6_25g3, want_some q6_25g8, want_some q6_25g13, want_some q6_25g18, want_some q6_25g23, want_some q6_25g28, k15, h1, h1', h2, h2']
  have h2' : ¬ (60 : Int) < m := by omega
  have hA := abL_C l n
  have a0 := fun bx => k16 r f 0 off n c (l := l) (h := .cells cs 3 true own :: bx) rfl hc (by omega)
  have a1 := fun bx => k29 r f 0 off n c 1 off2 m c2 x (h := .cells cs 3 true own :: .cells cs2 1 true own2 :: bx) rfl rfl (by decide) hc hc2
  have a2 := fun b2 bx => k33 r f 3 0 n n 1 off2 m c2 x (l := l) (st := st) (own := true) (h := .cells cs 3 true own :: .cells cs2 1 true own2 :: b2 :: abL l n :: bx) rfl rfl (by decide) hA hc2
  have a3 := fun bx => kList r f 0 off n c 1 off2 m c2 (F := 34) (h := .cells cs 3 true own :: .cells cs2 1 true own2 :: bx) rfl rfl (by decide) (c34 r f off n c off2 m c2 cs cs2 own own2 l st hc hc2) (by intro _; first | trivial | rfl)
  have a4 := fun b2 bx => kList r f 3 0 n n 1 off2 m c2 (F := 35) (h := .cells cs 3 true own :: .cells cs2 1 true own2 :: b2 :: abL l n :: bx) rfl rfl (by decide) (c35 r f 0 n n off2 m c2 _ cs2 true own2 l st hA hc2) (by intro _; first | trivial | rfl)
  have a5 := fun bx => kList r f 0 off n c 1 off2 m c2 (F := 36) (h := .cells cs 3 true own :: .cells cs2 1 true own2 :: bx) rfl rfl (by decide) (c36 r f off n c off2 m c2 cs cs2 own own2 l st hc hc2) (by intro _; first | trivial | rfl)
  have a6 := fun b2 bx => kList r f 3 0 n n 1 off2 m c2 (F := 37) (h := .cells cs 3 true own :: .cells cs2 1 true own2 :: b2 :: abL l n :: bx) rfl rfl (by decide) (c37 r f 0 n n off2 m c2 _ cs2 true own2 l st hA hc2) (by intro _; first | trivial | rfl)
  have hh := higR_len (r := r) (f := f) (n := n) (l := l) (m := m) (st := st)
  have hs := susR_len (r := r) (f := f) (n := n) (l := l) (m := m) (st := st)
  have a7 := fun b0 b1 b2 b3 b4 b5 b6 bx => k19 (higR r f n l m st) (higR r f n l m st) (by omega) (b1 := 7) (b2 := 8) (h := b0 :: b1 :: b2 :: b3 :: b4 :: b5 :: b6 :: iB (higR r f n l m st) :: iB (higR r f n l m st) :: bx) rfl rfl (by decide)
  have a8 := fun b0 b1 b2 b3 b4 b5 b6 b7 b8 bx => k19 (susR r f n l m st) (susR r f n l m st) (by omega) (b1 := 9) (b2 := 10) (h := b0 :: b1 :: b2 :: b3 :: b4 :: b5 :: b6 :: b7 :: b8 :: iB (susR r f n l m st) :: iB (susR r f n l m st) :: bx) rfl rfl (by decide)
  simp only [decide_true] at a7 a8
  generalize valP r f n l m st x = q at *
  generalize valE r f n l m st x = q' at *
  generalize higR r f n l m st = q2 at *
  generalize susR r f n l m st = q3 at *
  generalize expE r f n l m st = q4 at *
  generalize ptdE r f n l m st = q5 at *
  simp only [abL, iB] at a0 a1 a2 a3 a4 a5 a6 a7 a8
  simp (maxSteps := 1000000) (disch := first | omega | decide | assumption | simp [scal]) [o_fieldAddr fa_24_2 (by decide), loadA_eq ia_22, lenA_sl lk_22, lenA_sl lk_25, loadA_eq ia_24, za_29, sz_29, za_57, sz_57, loadA_eq ia_29, loadA_eq ia_57, want_some q6_4g4, want_some q6_25g3, want_some q6_25g8, want_some q6_25g13, want_some q6_25g18, want_some q6_25g23, want_some q6_25g28, k15, h1, h1', h2, h2', a0, a1, a2, a3, a4, a5, a6, a7, a8, eq57]
end
end Go.Proofs.Ytiafgimgcbmgaaa.bl

