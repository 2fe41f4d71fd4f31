/-
  Contracts of functions of the program at the limit evaluator, continued. No condition.
-/
import Derived.Test.YtgpcjdhlijompaaXF
namespace Go.Proofs.Ytgpcjdhlijompaa.ore
open Go.GE
set_option linter.unusedVariables false
set_option linter.unusedSimpArgs false
set_option maxRecDepth 100000
def addP (W H : Nat) (S : Sz) (p : Ln) : Sz := add (add S (one W H p).1 (one W H p).2) (two W H p).1 (two W H p).2
section
variable (X Y : Int) (W H : Nat) (l : List Ln)
def T54 (d : Bool) (bx : Nat) : Tm := [(32, .bool false), (31, .bool false), (30, .nilIface), (29, .pointer (some ⟨1, 81 + W * 9 + H, none⟩)), (28, .pointer (some ⟨1, 81 + W * 9, none⟩)), (27, .pointer (some ⟨1, 81, none⟩)), (26, .pointer (some ⟨1, 0, none⟩)), (25, iv H), (24, .pointer (some ⟨bx, 3, none⟩)), (23, iv W), (22, .pointer (some ⟨bx, 2, none⟩)), (21, .pointer (some ⟨1, 0, none⟩)),
  (20, .bool false), (19, .bool false), (18, if d then .bool false else .tuple #[]), (17, if d then iv H else .tuple #[]), (16, if d then .pointer (some ⟨bx, 3, none⟩) else .tuple #[]), (15, .bool d), (14, .bool d), (13, iv W), (12, .pointer (some ⟨bx, 2, none⟩)), (4, iv 0), (3, .pointer (some ⟨bx, 0, none⟩)), (0, bv X Y W H), (1, p0), (2, p2)]
def hN (S : Sz) : List Blk := [aB, planB S, fB, linB l, boxOf X Y W H]
set_option maxHeartbeats 4000000 in
theorem sw54 (d lay : Bool) (i : Int) (way : Option Ln) (least : Int) (S : Sz) (b5 b6 : Blk) (wr : List Nat) (hw : wr = [] ∨ wr = [1]) :
    sweep 3 ⟨pre54 X Y W H l (lnOf lay) (T54 X Y W H d (bxOf lay)) i way least, aB :: planB S :: fB :: (restOf lay (boxOf X Y W H) l ++ [b5, b6]), wr⟩ =
      some ⟨pre54 X Y W H l 3 (T54 X Y W H d 4) i way least, hN X Y W H l S, wr⟩ := by
  have w1 := (wv_ids way).1
  have w2 := (wv_ids way).2
  simp only [dep] at w1 w2
  cases lay <;> cases d <;> rcases hw with rfl | rfl <;> simp only [pre54, T54, lnOf, bxOf, restOf, hN, boxOf, Bool.false_eq_true, if_true, if_false] <;>
  simp (disch := first | omega | decide | assumption | simp [scal]) [runOps_nil, runOps_cons, runOpsF_nil, runOpsF_cons, fstS_some, fstF_some, opStep_eq, want_none, oStep_true, oStep_false, fin_pure, fin_read, fin_alloc, fin_write, storeB, wrN, cellV, addWr, o_move, o_assign, o_pick, o_alloc, o_box, o_load, o_store, o_nilCheck, o_bin, o_un, o_extract, o_callV, o_callB, o_callI, callV_f, callV_y, callV_fc, o_makeFunc, partsA, Instr.fill, builtin_len, builtin_max2, bin_add, bin_sub, bin_mul, bin_quo, bin_rem, bin_lss, bin_leq, bin_gtr, bin_geq, bin_eql, bin_neq, un_neg, un_not, opd, opds, optAll, lk, putO, put, has, rep, nbeq, nblt, constOk, isC, ops, sub, cl, cr, co, bodyOf, thenS_normal, thenS_ret, thenS_exit, thenS_goto, afterN_normal, afterN_ret, afterN_exit, afterN_goto, condS_true, condS_false, blockS_normal, blockS_ret, blockS_exit, blockS_goto, loopS_exit, loopS_ret, plainS_some, drawS_some, fpsOk, disj, unord, mem, range', dropTo, enumT, undef, wrap_i64_id, Value.cells, mkCells, ptrTo, scal, cellsAt, rdN, endS_ret, resultsA, Option.bind_some, tupV, finish, reach, reachN, dep, ptrL_eq, ptrL, renL_eq, renL, ptrV_bool, ptrV_int, ptrV_string, ptrV_nilFunc, ptrV_nilIface, ptrV_nilPtr, ptrV_ptr, ptrV_nilSl, ptrV_sl, ptrV_iface, ptrV_agg, ptrV_tuple, ptrV_func, renV_bool, renV_int, renV_string, renV_nilFunc, renV_nilIface, renV_nilPtr, renV_ptr, renV_nilSl, renV_sl, renV_iface, renV_agg, renV_tuple, renV_func, o_fieldAddr fa_24_2 (by decide), loadA_eq ia_3, o_fieldAddr fa_24_3 (by decide), loadA_eq ia_22, o_fieldAddr fa_24_0 (by decide), o_indexAddrS es_22, loadA_eq ia_31, o_fieldAddr fa_31_2 (by decide), o_fieldAddr fa_31_3 (by decide), o_fieldAddr fa_31_0 (by decide), o_fieldAddr fa_24_1 (by decide), lenA_sl lk_22, loadA_eq ia_24, o_fieldAddr fa_31_1 (by decide), za_31, sz_31, o_fieldAddr fa_35_0 (by decide), o_fieldAddr fa_35_1 (by decide), o_fieldAddr fa_35_2 (by decide), o_fieldAddr fa_35_3 (by decide), za_3, sz_3, loadA_eq ia_35, za_103, o_build za_103 pl_103, o_indexAddrS es_104, ze_104, o_buildSlice es_104 ze_104 (by decide) ba_104_4, lenA_sl lk_104, loadA_eq ia_103, sz_103, o_fieldAddr fa_103_2 (by decide), o_fieldAddr fa_103_0 (by decide), o_fieldAddr fa_103_1 (by decide), o_fieldAddr fa_38_0 (by decide), o_fieldAddr fa_38_1 (by decide), o_fieldAddr fa_38_2 (by decide), o_fieldAddr fa_38_3 (by decide), loadA_eq ia_38, za_89, o_build za_89 pl_89, za_90, sz_90, za_79, sz_79, loadA_eq ia_79, za_35, o_build za_35 pl_35, loadA_eq ia_90, o_fieldAddr fa_89_1 (by decide), o_indexAddrA ea_87, o_indexAddrA ea_86, loadA_eq ia_85, o_fieldAddr fa_89_0 (by decide), o_indexAddrA ea_83, o_indexAddrA ea_82, lenA_sl lk_101, o_indexAddrS es_101, sz_35, sz_85, o_mkI ii_93, ze_101, o_buildSlice es_101 ze_101 (by decide) ba_101_1, ap_101, builtin_append ni_101, o_mkI ii_94, o_index ix_83, o_index ix_82, za_83, loadA_eq ia_83, sz_83, sweep, ptrT, renT, renFn, ptrFn, optAll, renB_flat, ptrB_flat, idx, ptrB_lin, renB_lin, ptrB_plan, renB_plan, w1, w2]
theorem addWr_or {wr u : List Nat} (h1 : wr = [] ∨ wr = [1]) (h2 : u = [] ∨ u = [1]) : addWr 3 wr u = [] ∨ addWr 3 wr u = [1] := by
  rcases h1 with rfl | rfl <;> rcases h2 with rfl | rfl <;> first | exact .inl rfl | exact .inr rfl
theorem next54 (d lay : Bool) (hX : 0 ≤ X ∧ X + W ≤ 1000) (hY : 0 ≤ Y ∧ Y + H ≤ 1000) (hW : W ≤ 8) (hH : H ≤ 8) (hP : ∀ w h, 1 ≤ w → 1 ≤ h → w ≤ 8 → h ≤ 8 → w + h < W + H → P54 w h) (hlen : l.length ≤ 100)
    (S : Sz) (hS : DC S) (i : Nat) (p : Ln) (hi : l[i]? = some p) (hp : if p.1 then 1 ≤ p.2 ∧ p.2 < W ∧ 1 ≤ H else 1 ≤ p.2 ∧ p.2 < H ∧ 1 ≤ W) (way : Option Ln) (least : Int) (wr : List Nat) (hw : wr = [] ∨ wr = [1]) :
    ∃ wr', (wr' = [] ∨ wr' = [1]) ∧ ∀ r, codeB Try.prog LL ⟨54, 98, 3, none⟩ n54_18 ⟨pre54 X Y W H l 3 (T54 X Y W H d 4) ((i + 1 : Nat) : Int) (updL W H (least, way) p).2 (updL W H (least, way) p).1, hN X Y W H l (addP W H S p), wr'⟩ = some r →
      codeB Try.prog LL ⟨54, 98, 3, none⟩ n54_18 ⟨pre54 X Y W H l (lnOf lay) (T54 X Y W H d (bxOf lay)) i way least, aB :: planB S :: fB :: restOf lay (boxOf X Y W H) l, wr⟩ = some r := by
  have hbig : (T54 X Y W H d (bxOf lay)).all (fun p => Nat.blt p.1 47) = true := by cases d <;> rfl
  obtain ⟨wr', e, hc⟩ := rnd54 X Y W H l lay hX hY hW hH hP hlen (T54 X Y W H d (bxOf lay)) (by cases d <;> rfl) (by cases d <;> rfl) (has_big hbig) (by cases d <;> rfl) (by cases d <;> rfl) (by cases d <;> rfl) (by cases d <;> rfl) S hS i p hi hp way least wr
  have hw' : wr' = [] ∨ wr' = [1] := by rw [e]; exact addWr_or (addWr_or hw (wl_or _ _ _)) (wl_or _ _ _)
  refine ⟨wr', hw', fun r hr => ?_⟩
  rw [n54_18s, hc]
  rw [loopS_grow (by cases lay <;> simp [restOf])]
  have hd : dropTo (List.length (pre54 X Y W H l (lnOf lay) (T54 X Y W H d (bxOf lay)) i way least)) ((76, iv ((i : Int) + 1)) :: (47, .bool true) :: pre54 X Y W H l (lnOf lay) (T54 X Y W H d (bxOf lay)) (i + 1) (updL W H (least, way) p).2 (updL W H (least, way) p).1) = pre54 X Y W H l (lnOf lay) (T54 X Y W H d (bxOf lay)) (i + 1) (updL W H (least, way) p).2 (updL W H (least, way) p).1 := by
    rw [drop_cons (by simp [pre54]), drop_cons (by simp [pre54]), drop_self (by simp [pre54])]
  rw [hd, sw54 X Y W H l d lay (i + 1) _ _ _ _ _ wr' hw']
  exact L_code hr
theorem loop54 (d : Bool) (hX : 0 ≤ X ∧ X + W ≤ 1000) (hY : 0 ≤ Y ∧ Y + H ≤ 1000) (hW : W ≤ 8) (hH : H ≤ 8) (hP : ∀ w h, 1 ≤ w → 1 ≤ h → w ≤ 8 → h ≤ 8 → w + h < W + H → P54 w h) (hlen : l.length ≤ 100)
    (hl : ∀ p, p ∈ l → if p.1 then 1 ≤ p.2 ∧ p.2 < W ∧ 1 ≤ H else 1 ≤ p.2 ∧ p.2 < H ∧ 1 ≤ W) : ∀ k i : Nat, i + k = l.length → ∀ (S : Sz) (way : Option Ln) (least : Int) (wr : List Nat), DC S → (wr = [] ∨ wr = [1]) →
    ∃ wr', (wr' = [] ∨ wr' = [1]) ∧ codeB Try.prog LL ⟨54, 98, 3, none⟩ n54_18 ⟨pre54 X Y W H l 3 (T54 X Y W H d 4) i way least, hN X Y W H l S, wr⟩ =
      some (.exit 0, ⟨(47, .bool false) :: pre54 X Y W H l 3 (T54 X Y W H d 4) l.length ((l.drop i).foldl (updL W H) (least, way)).2 ((l.drop i).foldl (updL W H) (least, way)).1, hN X Y W H l ((l.drop i).foldl (addP W H) S), wr'⟩) := by
  intro k
  induction k with
  | zero =>
    intro i hi S way least wr hS hw
    obtain rfl : l.length = i := by omega
    refine ⟨wr, hw, ?_⟩
    rw [n54_18s]
    simp only [List.drop_length, List.foldl_nil]
    simp only [pre54, hN]
    have hb : ∀ t, 47 ≤ t → has (T54 X Y W H d 4) t = false := has_big (by cases d <;> rfl)
    simp (disch := first | omega | decide | assumption | simp [scal]) [runOps_nil, runOps_cons, runOpsF_nil, runOpsF_cons, fstS_some, fstF_some, opStep_eq, want_none, oStep_true, oStep_false, fin_pure, fin_read, fin_alloc, fin_write, storeB, wrN, cellV, addWr, o_move, o_assign, o_pick, o_alloc, o_box, o_load, o_store, o_nilCheck, o_bin, o_un, o_extract, o_callV, o_callB, o_callI, callV_f, callV_y, callV_fc, o_makeFunc, partsA, Instr.fill, builtin_len, builtin_max2, bin_add, bin_sub, bin_mul, bin_quo, bin_rem, bin_lss, bin_leq, bin_gtr, bin_geq, bin_eql, bin_neq, un_neg, un_not, opd, opds, optAll, lk, putO, put, has, rep, nbeq, nblt, constOk, isC, ops, sub, cl, cr, co, bodyOf, thenS_normal, thenS_ret, thenS_exit, thenS_goto, afterN_normal, afterN_ret, afterN_exit, afterN_goto, condS_true, condS_false, blockS_normal, blockS_ret, blockS_exit, blockS_goto, loopS_exit, loopS_ret, plainS_some, drawS_some, fpsOk, disj, unord, mem, range', dropTo, enumT, undef, wrap_i64_id, Value.cells, mkCells, ptrTo, scal, cellsAt, rdN, endS_ret, resultsA, Option.bind_some, tupV, finish, reach, reachN, dep, ptrL_eq, ptrL, renL_eq, renL, ptrV_bool, ptrV_int, ptrV_string, ptrV_nilFunc, ptrV_nilIface, ptrV_nilPtr, ptrV_ptr, ptrV_nilSl, ptrV_sl, ptrV_iface, ptrV_agg, ptrV_tuple, ptrV_func, renV_bool, renV_int, renV_string, renV_nilFunc, renV_nilIface, renV_nilPtr, renV_ptr, renV_nilSl, renV_sl, renV_iface, renV_agg, renV_tuple, renV_func, o_fieldAddr fa_35_2 (by decide), loadA_eq ia_3, o_fieldAddr fa_35_3 (by decide), loadA_eq ia_90, o_fieldAddr fa_89_1 (by decide), o_indexAddrA ea_87, o_indexAddrA ea_86, loadA_eq ia_85, o_fieldAddr fa_89_0 (by decide), o_indexAddrA ea_83, o_indexAddrA ea_82, loadA_eq ia_35, lenA_sl lk_101, o_indexAddrS es_101, za_35, sz_35, loadA_eq ia_79, sz_3, sz_85, n54_1s, n54_4s, n54_7s, n54_8s, n54_6s, n54_9s, n54_5s, n54_3s, n54_11s, n54_13s, n54_16s, n54_20s, n54_23s, n54_24s, n54_22s, n54_28s, n54_30s, n54_32s, n54_34s, n54_36s, n54_37s, n54_35s, n54_33s, n54_31s, n54_29s, n54_27s, n54_26s, n54_38s, n54_25s, n54_21s, n54_19s, n54_17s, n54_15s, n54_40s, n54_42s, n54_43s, n54_41s, n54_39s, n54_14s, n54_12s, n54_10s, n54_2s, n54_0s, want_some q54_4g3, want_some q54_4g8, want_some q54_34g2, Try.f54, -dropTo, drop_cons, drop_self, hb]
  | succ k ih =>
    intro i hi S way least wr hS hw
    have e1 : i < l.length := by omega
    have e2 : l[i]? = some l[i] := List.getElem?_eq_getElem e1
    have e3 : l.drop i = l[i] :: l.drop (i + 1) := List.drop_eq_getElem_cons e1
    have hp := hl l[i] (List.getElem_mem e1)
    generalize l[i] = p at *
    obtain ⟨wr1, h1, h2⟩ := next54 X Y W H l d true hX hY hW hH hP hlen S hS i p e2 hp way least wr hw
    have hS' : DC (addP W H S p) := by
      unfold addP
      obtain ⟨tag, m⟩ := p
      cases tag <;> simp only [Bool.false_eq_true, if_true, if_false] at hp <;> simp only [one, two, Bool.false_eq_true, if_true, if_false] <;> exact (hS.add (by omega) (by omega)).add (by omega) (by omega)
    obtain ⟨wr2, h3, h4⟩ := ih (i + 1) (by omega) (addP W H S p) (updL W H (least, way) p).2 (updL W H (least, way) p).1 wr1 hS' h1
    refine ⟨wr2, h3, ?_⟩
    rw [e3]
    simp only [List.foldl_cons]
    exact h2 _ h4
end
end Go.Proofs.Ytgpcjdhlijompaa.ore

namespace Go.Proofs.Ytgpcjdhlijompaa.ore
open Go.GE
set_option linter.unusedVariables false
set_option linter.unusedSimpArgs false
set_option maxRecDepth 100000
def inB (p : Nat × Nat) (w h : Nat) : Prop := 1 ≤ w ∧ w ≤ p.1 ∧ 1 ≤ h ∧ h ≤ p.2 ∧ ¬ (w = 1 ∧ h = 1)
theorem add_iff {S : Sz} {p : Nat × Nat} {w h : Nat} : add S p.1 p.2 w h = true ↔ S w h = true ∨ inB p w h := by
  simp only [add, Bool.or_eq_true, decide_eq_true_eq, inB]
theorem fold_iff {W H : Nat} {w h : Nat} : ∀ {l : List Ln} {S : Sz}, l.foldl (addP W H) S w h = true ↔ S w h = true ∨ ∃ p, p ∈ l ∧ (inB (one W H p) w h ∨ inB (two W H p) w h) := by
  intro l
  induction l with
  | nil => intro S; simp
  | cons q l ih =>
    intro S
    rw [List.foldl_cons, ih]
    unfold addP
    rw [add_iff, add_iff]
    constructor
    · rintro (((h | h) | h) | ⟨p, hp, h⟩)
      · exact .inl h
      · exact .inr ⟨q, by simp, .inl h⟩
      · exact .inr ⟨q, by simp, .inr h⟩
      · exact .inr ⟨p, by simp [hp], h⟩
    · rintro (h | ⟨p, hp, h⟩)
      · exact .inl (.inl (.inl h))
      · rcases List.mem_cons.1 hp with rfl | hp
        · rcases h with h | h
          · exact .inl (.inl (.inr h))
          · exact .inl (.inr h)
        · exact .inr ⟨p, hp, h⟩
theorem line_mem {W H : Nat} {p : Ln} (h : p ∈ lineL W H) (hW : 1 ≤ W) (hH : 1 ≤ H) : if p.1 then 1 ≤ p.2 ∧ p.2 < W ∧ 1 ≤ H else 1 ≤ p.2 ∧ p.2 < H ∧ 1 ≤ W := by
  unfold lineL ups levs at h
  rw [List.mem_append, List.mem_map, List.mem_map] at h
  rcases h with ⟨i, hi, rfl⟩ | ⟨i, hi, rfl⟩
  · have := List.mem_range.1 hi
    simp only [if_true]; omega
  · have := List.mem_range.1 hi
    simp only [Bool.false_eq_true, if_false]; omega
theorem mem_up {W H n : Nat} (h1 : 1 ≤ n) (h2 : n < W) : (true, n) ∈ lineL W H := by
  unfold lineL ups
  rw [List.mem_append]; left
  exact List.mem_map.2 ⟨n - 1, List.mem_range.2 (by omega), by congr 1; omega⟩
theorem mem_lev {W H n : Nat} (h1 : 1 ≤ n) (h2 : n < H) : (false, n) ∈ lineL W H := by
  unfold lineL levs
  rw [List.mem_append]; right
  exact List.mem_map.2 ⟨n - 1, List.mem_range.2 (by omega), by congr 1; omega⟩
theorem line_len (W H : Nat) : (lineL W H).length = (W - 1) + (H - 1) := by simp [lineL, ups, levs]
theorem end54 {S : Sz} {W H : Nat} (hW : 1 ≤ W) (hH : 1 ≤ H) (hne : ¬ (W = 1 ∧ H = 1)) : add1 ((lineL W H).foldl (addP W H) S) W H = add S W H := by
  funext w h
  rw [Bool.eq_iff_iff]
  have e1 : add S W H w h = true ↔ S w h = true ∨ inB (W, H) w h := add_iff (p := (W, H))
  rw [e1]
  simp only [add1, Bool.or_eq_true, Bool.and_eq_true, decide_eq_true_eq]
  rw [fold_iff]
  constructor
  · rintro ((h1 | ⟨p, hp, h1⟩) | ⟨rfl, rfl⟩)
    · exact .inl h1
    · right
      have hm := line_mem hp hW hH
      obtain ⟨tag, m⟩ := p
      cases tag <;> simp only [Bool.false_eq_true, if_true, if_false] at hm <;> simp only [one, two, Bool.false_eq_true, if_true, if_false, inB] at h1 ⊢ <;> omega
    · right; unfold inB; simp only; omega
  · rintro (h1 | h1)
    · exact .inl (.inl h1)
    · unfold inB at h1
      simp only at h1
      by_cases hw : w < W
      · exact .inl (.inr ⟨_, mem_up h1.1 hw, .inl (by simp only [one, if_true, inB]; omega)⟩)
      · by_cases hh : h < H
        · exact .inl (.inr ⟨_, mem_lev h1.2.2.1 hh, .inl (by simp only [one, Bool.false_eq_true, if_false, inB]; omega)⟩)
        · right; omega
theorem wv_some {q : Ln} : wv (some q) = .iface (if q.1 then 93 else 94) (iv q.2) := rfl
theorem wv_none : wv none = .nilIface := rfl
theorem wv_cells (o : Option Ln) : (wv o).cells = #[wv o] := by cases o <;> rfl
theorem wv_cellV (o : Option Ln) : cellV (wv o) = true := by cases o <;> rfl
theorem ptrB_plan' {S : Sz} : ptrB (.cells (planL S) 1 false true) = [] := ptrB_plan
theorem renB_plan' {f : Nat → Option Nat} {S : Sz} : renB f (.cells (planL S) 1 false true) = some (.cells (planL S) 1 false true) := renB_plan
theorem k55 (X Y : Int) (W H : Nat) (hW : 1 ≤ W ∧ W ≤ 100) (hH : 1 ≤ H ∧ H ≤ 100) (hne : ¬ (W = 1 ∧ H = 1)) (h : List Blk) :
    callH LL 55 [bv X Y W H] h = some ⟨.slice (some ⟨h.length, 0, none⟩) (lineL W H).length (lineL W H).length, h ++ [linB (lineL W H)], [], []⟩ := by
  have e := c55 X Y W H hW hH
  have hl : lineL W H ≠ [] := by
    intro h0
    have := line_len W H
    rw [h0] at this
    simp at this
    omega
  generalize lineL W H = l at *
  cases l with
  | nil => exact absurd rfl hl
  | cons q t =>
    unfold callH
    simp only [ptr_plains (vs := [bv X Y W H]) rfl]
    have hr : reach h 0 reachN [] [] = [] := rfl
    have hr2 : optAll (renV (idx []) dep) [bv X Y W H] = some [bv X Y W H] := ren_plains rfl
    simp only [hr, hr2]
    simp [optAll, e, mergeB, slL, blL, renV_sl, dep, nblt, renB_lin]
set_option maxHeartbeats 4000000 in
theorem c54 (W H : Nat) (hW : 1 ≤ W ∧ W ≤ 8) (hH : 1 ≤ H ∧ H ≤ 8) (hP : ∀ w h, 1 ≤ w → 1 ≤ h → w ≤ 8 → h ≤ 8 → w + h < W + H → P54 w h) : P54 W H := by
  intro X Y S hS hx1 hx2 hy1 hy2
  refine go (by decide) ?_
  rw [run54 _ _ _ (by simp)]
  have w9 : W < 9 := by omega
  have h9 : H < 9 := by omega
  have wi : (W : Int) < 9 := by omega
  have hi : (H : Int) < 9 := by omega
  have pT := plan_T (S := S) w9 h9
  have pB := plan_B (S := S) w9 h9
  have bT := best_T w9 h9 hW.1 hH.1
  by_cases h11 : W = 1 ∧ H = 1
  · obtain ⟨rfl, rfl⟩ := h11
    have hs : S 1 1 = false := by
      cases h : S 1 1 with
      | false => rfl
      | true => exact absurd ⟨rfl, rfl⟩ (hS.in' 1 1 h).2.2.2.2
    have ht : hit S 1 1 := .inl ⟨rfl, rfl⟩
    have tt : tT 1 1 = 0 := by decide
    simp only [hs, Bool.false_eq_true, if_false] at pT
    simp only [ht, if_true, tt]
    simp only [aB, fB, planB]
    simp (disch := first | omega | decide | assumption | simp [scal]) [runOps_nil, runOps_cons, runOpsF_nil, runOpsF_cons, fstS_some, fstF_some, opStep_eq, want_none, oStep_true, oStep_false, fin_pure, fin_read, fin_alloc, fin_write, storeB, wrN, cellV, addWr, o_move, o_assign, o_pick, o_alloc, o_box, o_load, o_store, o_nilCheck, o_bin, o_un, o_extract, o_callV, o_callB, o_callI, callV_f, callV_y, callV_fc, o_makeFunc, partsA, Instr.fill, builtin_len, builtin_max2, bin_add, bin_sub, bin_mul, bin_quo, bin_rem, bin_lss, bin_leq, bin_gtr, bin_geq, bin_eql, bin_neq, un_neg, un_not, opd, opds, optAll, lk, putO, put, has, rep, nbeq, nblt, constOk, isC, ops, sub, cl, cr, co, bodyOf, thenS_normal, thenS_ret, thenS_exit, thenS_goto, afterN_normal, afterN_ret, afterN_exit, afterN_goto, condS_true, condS_false, blockS_normal, blockS_ret, blockS_exit, blockS_goto, loopS_exit, loopS_ret, plainS_some, drawS_some, fpsOk, disj, unord, mem, range', dropTo, enumT, undef, wrap_i64_id, Value.cells, mkCells, ptrTo, scal, cellsAt, rdN, endS_ret, resultsA, Option.bind_some, tupV, finish, reach, reachN, dep, ptrL_eq, ptrL, renL_eq, renL, ptrV_bool, ptrV_int, ptrV_string, ptrV_nilFunc, ptrV_nilIface, ptrV_nilPtr, ptrV_ptr, ptrV_nilSl, ptrV_sl, ptrV_iface, ptrV_agg, ptrV_tuple, ptrV_func, renV_bool, renV_int, renV_string, renV_nilFunc, renV_nilIface, renV_nilPtr, renV_ptr, renV_nilSl, renV_sl, renV_iface, renV_agg, renV_tuple, renV_func, o_fieldAddr fa_35_2 (by decide), loadA_eq ia_3, o_fieldAddr fa_35_3 (by decide), loadA_eq ia_90, o_fieldAddr fa_89_1 (by decide), o_indexAddrA ea_87, o_indexAddrA ea_86, loadA_eq ia_85, o_fieldAddr fa_89_0 (by decide), o_indexAddrA ea_83, o_indexAddrA ea_82, loadA_eq ia_35, lenA_sl lk_101, o_indexAddrS es_101, za_35, sz_35, loadA_eq ia_79, sz_3, sz_85, n54_1s, n54_4s, n54_7s, n54_8s, n54_6s, n54_9s, n54_5s, n54_3s, n54_11s, n54_13s, n54_16s, n54_20s, n54_23s, n54_24s, n54_22s, n54_28s, n54_30s, n54_32s, n54_34s, n54_36s, n54_37s, n54_35s, n54_33s, n54_31s, n54_29s, n54_27s, n54_26s, n54_38s, n54_25s, n54_21s, n54_19s, n54_17s, n54_15s, n54_40s, n54_42s, n54_43s, n54_41s, n54_39s, n54_14s, n54_12s, n54_10s, n54_2s, n54_0s, want_some q54_4g3, want_some q54_4g8, want_some q54_34g2, Try.f54, pT]
  · cases hs : S W H with
    | true =>
      have ht : hit S W H := .inr hs
      have hb : tB W H ≠ none := fun h => h11 (bT.2.1 h)
      obtain ⟨q, hq⟩ := Option.ne_none_iff_exists'.1 hb
      simp only [hs, if_true, hq, wv] at pT pB
      simp only [ht, if_true]
      simp only [aB, fB, planB, lv] at pB ⊢
      by_cases w1 : (W : Int) = 1
      · have h1 : ¬ (H : Int) = 1 := fun h => h11 ⟨by omega, by omega⟩
        simp (disch := first | omega | decide | assumption | simp [scal]) [runOps_nil, runOps_cons, runOpsF_nil, runOpsF_cons, fstS_some, fstF_some, opStep_eq, want_none, oStep_true, oStep_false, fin_pure, fin_read, fin_alloc, fin_write, storeB, wrN, cellV, addWr, o_move, o_assign, o_pick, o_alloc, o_box, o_load, o_store, o_nilCheck, o_bin, o_un, o_extract, o_callV, o_callB, o_callI, callV_f, callV_y, callV_fc, o_makeFunc, partsA, Instr.fill, builtin_len, builtin_max2, bin_add, bin_sub, bin_mul, bin_quo, bin_rem, bin_lss, bin_leq, bin_gtr, bin_geq, bin_eql, bin_neq, un_neg, un_not, opd, opds, optAll, lk, putO, put, has, rep, nbeq, nblt, constOk, isC, ops, sub, cl, cr, co, bodyOf, thenS_normal, thenS_ret, thenS_exit, thenS_goto, afterN_normal, afterN_ret, afterN_exit, afterN_goto, condS_true, condS_false, blockS_normal, blockS_ret, blockS_exit, blockS_goto, loopS_exit, loopS_ret, plainS_some, drawS_some, fpsOk, disj, unord, mem, range', dropTo, enumT, undef, wrap_i64_id, Value.cells, mkCells, ptrTo, scal, cellsAt, rdN, endS_ret, resultsA, Option.bind_some, tupV, finish, reach, reachN, dep, ptrL_eq, ptrL, renL_eq, renL, ptrV_bool, ptrV_int, ptrV_string, ptrV_nilFunc, ptrV_nilIface, ptrV_nilPtr, ptrV_ptr, ptrV_nilSl, ptrV_sl, ptrV_iface, ptrV_agg, ptrV_tuple, ptrV_func, renV_bool, renV_int, renV_string, renV_nilFunc, renV_nilIface, renV_nilPtr, renV_ptr, renV_nilSl, renV_sl, renV_iface, renV_agg, renV_tuple, renV_func, o_fieldAddr fa_35_2 (by decide), loadA_eq ia_3, o_fieldAddr fa_35_3 (by decide), loadA_eq ia_90, o_fieldAddr fa_89_1 (by decide), o_indexAddrA ea_87, o_indexAddrA ea_86, loadA_eq ia_85, o_fieldAddr fa_89_0 (by decide), o_indexAddrA ea_83, o_indexAddrA ea_82, loadA_eq ia_35, lenA_sl lk_101, o_indexAddrS es_101, za_35, sz_35, loadA_eq ia_79, sz_3, sz_85, n54_1s, n54_4s, n54_7s, n54_8s, n54_6s, n54_9s, n54_5s, n54_3s, n54_11s, n54_13s, n54_16s, n54_20s, n54_23s, n54_24s, n54_22s, n54_28s, n54_30s, n54_32s, n54_34s, n54_36s, n54_37s, n54_35s, n54_33s, n54_31s, n54_29s, n54_27s, n54_26s, n54_38s, n54_25s, n54_21s, n54_19s, n54_17s, n54_15s, n54_40s, n54_42s, n54_43s, n54_41s, n54_39s, n54_14s, n54_12s, n54_10s, n54_2s, n54_0s, want_some q54_4g3, want_some q54_4g8, want_some q54_34g2, Try.f54, pT, pB, wi, hi, eq_true w1, h1, neqI1]
      · simp (disch := first | omega | decide | assumption | simp [scal]) [runOps_nil, runOps_cons, runOpsF_nil, runOpsF_cons, fstS_some, fstF_some, opStep_eq, want_none, oStep_true, oStep_false, fin_pure, fin_read, fin_alloc, fin_write, storeB, wrN, cellV, addWr, o_move, o_assign, o_pick, o_alloc, o_box, o_load, o_store, o_nilCheck, o_bin, o_un, o_extract, o_callV, o_callB, o_callI, callV_f, callV_y, callV_fc, o_makeFunc, partsA, Instr.fill, builtin_len, builtin_max2, bin_add, bin_sub, bin_mul, bin_quo, bin_rem, bin_lss, bin_leq, bin_gtr, bin_geq, bin_eql, bin_neq, un_neg, un_not, opd, opds, optAll, lk, putO, put, has, rep, nbeq, nblt, constOk, isC, ops, sub, cl, cr, co, bodyOf, thenS_normal, thenS_ret, thenS_exit, thenS_goto, afterN_normal, afterN_ret, afterN_exit, afterN_goto, condS_true, condS_false, blockS_normal, blockS_ret, blockS_exit, blockS_goto, loopS_exit, loopS_ret, plainS_some, drawS_some, fpsOk, disj, unord, mem, range', dropTo, enumT, undef, wrap_i64_id, Value.cells, mkCells, ptrTo, scal, cellsAt, rdN, endS_ret, resultsA, Option.bind_some, tupV, finish, reach, reachN, dep, ptrL_eq, ptrL, renL_eq, renL, ptrV_bool, ptrV_int, ptrV_string, ptrV_nilFunc, ptrV_nilIface, ptrV_nilPtr, ptrV_ptr, ptrV_nilSl, ptrV_sl, ptrV_iface, ptrV_agg, ptrV_tuple, ptrV_func, renV_bool, renV_int, renV_string, renV_nilFunc, renV_nilIface, renV_nilPtr, renV_ptr, renV_nilSl, renV_sl, renV_iface, renV_agg, renV_tuple, renV_func, o_fieldAddr fa_35_2 (by decide), loadA_eq ia_3, o_fieldAddr fa_35_3 (by decide), loadA_eq ia_90, o_fieldAddr fa_89_1 (by decide), o_indexAddrA ea_87, o_indexAddrA ea_86, loadA_eq ia_85, o_fieldAddr fa_89_0 (by decide), o_indexAddrA ea_83, o_indexAddrA ea_82, loadA_eq ia_35, lenA_sl lk_101, o_indexAddrS es_101, za_35, sz_35, loadA_eq ia_79, sz_3, sz_85, n54_1s, n54_4s, n54_7s, n54_8s, n54_6s, n54_9s, n54_5s, n54_3s, n54_11s, n54_13s, n54_16s, n54_20s, n54_23s, n54_24s, n54_22s, n54_28s, n54_30s, n54_32s, n54_34s, n54_36s, n54_37s, n54_35s, n54_33s, n54_31s, n54_29s, n54_27s, n54_26s, n54_38s, n54_25s, n54_21s, n54_19s, n54_17s, n54_15s, n54_40s, n54_42s, n54_43s, n54_41s, n54_39s, n54_14s, n54_12s, n54_10s, n54_2s, n54_0s, want_some q54_4g3, want_some q54_4g8, want_some q54_34g2, Try.f54, pT, pB, wi, hi, w1, neqI1]
    | false =>
      have ht : ¬ hit S W H := fun h => by
        rcases h with h | h
        · exact h11 h
        · rw [hs] at h; cases h
      have hb : tB W H ≠ none := fun h => h11 (bT.2.1 h)
      obtain ⟨q, hq⟩ := Option.ne_none_iff_exists'.1 hb
      have hlen := line_len W H
      have k5 := k55 X Y W H (by omega) (by omega) h11
      have hend := end54 (S := S) hW.1 hH.1 h11
      have hm : ∀ p, p ∈ lineL W H → if p.1 then 1 ≤ p.2 ∧ p.2 < W ∧ 1 ≤ H else 1 ≤ p.2 ∧ p.2 < H ∧ 1 ≤ W := fun p hp => line_mem hp hW.1 hH.1
      have hf1 : ((lineL W H).foldl (updL W H) (0, none)).1 = tT W H := bT.1
      have hf2 : ((lineL W H).foldl (updL W H) (0, none)).2 = tB W H := rfl
      simp only [hs, Bool.false_eq_true, if_false] at pT pB
      simp only [ht, if_false]
      have key : ∀ d : Bool, ∃ wr', (wr' = [] ∨ wr' = [1]) ∧ codeB Try.prog LL ⟨54, 98, 3, none⟩ n54_18 ⟨pre54 X Y W H (lineL W H) 4 (T54 X Y W H d 3) 0 none 0, [aB, planB S, fB, boxOf X Y W H, linB (lineL W H)], []⟩ =
          some (.exit 0, ⟨(47, .bool false) :: pre54 X Y W H (lineL W H) 3 (T54 X Y W H d 4) (lineL W H).length (tB W H) (tT W H), hN X Y W H (lineL W H) ((lineL W H).foldl (addP W H) S), wr'⟩) := by
        intro d
        obtain ⟨p, t, e⟩ : ∃ p t, lineL W H = p :: t := by
          cases h : lineL W H with
          | nil => rw [h] at hlen; simp at hlen; omega
          | cons p t => exact ⟨p, t, rfl⟩
        obtain ⟨wr1, a1, a2⟩ := next54 X Y W H (lineL W H) d false ⟨hx1, hx2⟩ ⟨hy1, hy2⟩ hW.2 hH.2 hP (by omega) S hS 0 p (by rw [e]; rfl) (hm p (by rw [e]; simp)) none 0 [] (.inl rfl)
        have hS' : DC (addP W H S p) := by
          have hp := hm p (by rw [e]; simp)
          unfold addP
          obtain ⟨tag, m⟩ := p
          cases tag <;> simp only [Bool.false_eq_true, if_true, if_false] at hp <;> simp only [one, two, Bool.false_eq_true, if_true, if_false] <;> exact (hS.add (by omega) (by omega)).add (by omega) (by omega)
        obtain ⟨wr2, b1, b2⟩ := loop54 X Y W H (lineL W H) d ⟨hx1, hx2⟩ ⟨hy1, hy2⟩ hW.2 hH.2 hP (by omega) hm ((lineL W H).length - 1) (0 + 1) (by rw [e]; simp; omega) (addP W H S p) (updL W H (0, none) p).2 (updL W H (0, none) p).1 wr1 hS' a1
        refine ⟨wr2, b1, a2 _ ?_⟩
        rw [b2]
        have g1 : (lineL W H).drop (0 + 1) = t := by rw [e]; rfl
        have g2 : t.foldl (updL W H) ((updL W H (0, none) p).1, (updL W H (0, none) p).2) = (lineL W H).foldl (updL W H) (0, none) := by rw [e]; rfl
        have g3 : t.foldl (addP W H) (addP W H S p) = (lineL W H).foldl (addP W H) S := by rw [e]; rfl
        rw [g1, g2, g3, hf1, hf2]
      generalize (lineL W H).foldl (addP W H) S = S' at *
      generalize lineL W H = l at *
      have pS := plan_set (S := S') w9 h9
      rw [hend] at pS
      have b1 : W * 9 + H < 162 := by omega
      have b2 : 81 + W * 9 + H < 162 := by omega
      simp only [pre54, T54, hN, boxOf, aB, fB, planB, wv_none] at key
      by_cases w1 : (W : Int) = 1
      · have h1 : ¬ (H : Int) = 1 := fun h => h11 ⟨by omega, by omega⟩
        obtain ⟨wr', hw, hl⟩ := key true
        simp only [if_true] at hl
        simp only [aB, fB, planB]
        simp (disch := first | omega | decide | assumption | simp [scal]) [runOps_nil, runOps_cons, runOpsF_nil, runOpsF_cons, fstS_some, fstF_some, opStep_eq, want_none, oStep_true, oStep_false, fin_pure, fin_read, fin_alloc, fin_write, storeB, wrN, cellV, addWr, o_move, o_assign, o_pick, o_alloc, o_box, o_load, o_store, o_nilCheck, o_bin, o_un, o_extract, o_callV, o_callB, o_callI, callV_f, callV_y, callV_fc, o_makeFunc, partsA, Instr.fill, builtin_len, builtin_max2, bin_add, bin_sub, bin_mul, bin_quo, bin_rem, bin_lss, bin_leq, bin_gtr, bin_geq, bin_eql, bin_neq, un_neg, un_not, opd, opds, optAll, lk, putO, put, has, rep, nbeq, nblt, constOk, isC, ops, sub, cl, cr, co, bodyOf, thenS_normal, thenS_ret, thenS_exit, thenS_goto, afterN_normal, afterN_ret, afterN_exit, afterN_goto, condS_true, condS_false, blockS_normal, blockS_ret, blockS_exit, blockS_goto, loopS_exit, loopS_ret, plainS_some, drawS_some, fpsOk, disj, unord, mem, range', dropTo, enumT, undef, wrap_i64_id, Value.cells, mkCells, ptrTo, scal, cellsAt, rdN, endS_ret, resultsA, Option.bind_some, tupV, finish, reach, reachN, dep, ptrL_eq, ptrL, renL_eq, renL, ptrV_bool, ptrV_int, ptrV_string, ptrV_nilFunc, ptrV_nilIface, ptrV_nilPtr, ptrV_ptr, ptrV_nilSl, ptrV_sl, ptrV_iface, ptrV_agg, ptrV_tuple, ptrV_func, renV_bool, renV_int, renV_string, renV_nilFunc, renV_nilIface, renV_nilPtr, renV_ptr, renV_nilSl, renV_sl, renV_iface, renV_agg, renV_tuple, renV_func, o_fieldAddr fa_35_2 (by decide), loadA_eq ia_3, o_fieldAddr fa_35_3 (by decide), loadA_eq ia_90, o_fieldAddr fa_89_1 (by decide), o_indexAddrA ea_87, o_indexAddrA ea_86, loadA_eq ia_85, o_fieldAddr fa_89_0 (by decide), o_indexAddrA ea_83, o_indexAddrA ea_82, loadA_eq ia_35, lenA_sl lk_101, o_indexAddrS es_101, za_35, sz_35, loadA_eq ia_79, sz_3, sz_85, n54_1s, n54_4s, n54_7s, n54_8s, n54_6s, n54_9s, n54_5s, n54_3s, n54_11s, n54_13s, n54_16s, n54_20s, n54_23s, n54_24s, n54_22s, n54_28s, n54_30s, n54_32s, n54_34s, n54_36s, n54_37s, n54_35s, n54_33s, n54_31s, n54_29s, n54_27s, n54_26s, n54_38s, n54_25s, n54_21s, n54_19s, n54_17s, n54_15s, n54_40s, n54_42s, n54_43s, n54_41s, n54_39s, n54_14s, n54_12s, n54_10s, n54_2s, n54_0s, want_some q54_4g3, want_some q54_4g8, want_some q54_34g2, Try.f54, pT, pB, wi, hi, eq_true w1, h1, neqI0, k5, lenA_sl lk_101]
        simp only [hq, wv_some] at hl pS
        rw [hl]
        rcases hw with rfl | rfl <;>
        simp (disch := first | omega | decide | assumption | simp [scal]) [runOps_nil, runOps_cons, runOpsF_nil, runOpsF_cons, fstS_some, fstF_some, opStep_eq, want_none, oStep_true, oStep_false, fin_pure, fin_read, fin_alloc, fin_write, storeB, wrN, cellV, addWr, o_move, o_assign, o_pick, o_alloc, o_box, o_load, o_store, o_nilCheck, o_bin, o_un, o_extract, o_callV, o_callB, o_callI, callV_f, callV_y, callV_fc, o_makeFunc, partsA, Instr.fill, builtin_len, builtin_max2, bin_add, bin_sub, bin_mul, bin_quo, bin_rem, bin_lss, bin_leq, bin_gtr, bin_geq, bin_eql, bin_neq, un_neg, un_not, opd, opds, optAll, lk, putO, put, has, rep, nbeq, nblt, constOk, isC, ops, sub, cl, cr, co, bodyOf, thenS_normal, thenS_ret, thenS_exit, thenS_goto, afterN_normal, afterN_ret, afterN_exit, afterN_goto, condS_true, condS_false, blockS_normal, blockS_ret, blockS_exit, blockS_goto, loopS_exit, loopS_ret, plainS_some, drawS_some, fpsOk, disj, unord, mem, range', dropTo, enumT, undef, wrap_i64_id, Value.cells, mkCells, ptrTo, scal, cellsAt, rdN, endS_ret, resultsA, Option.bind_some, tupV, finish, reach, reachN, dep, ptrL_eq, ptrL, renL_eq, renL, ptrV_bool, ptrV_int, ptrV_string, ptrV_nilFunc, ptrV_nilIface, ptrV_nilPtr, ptrV_ptr, ptrV_nilSl, ptrV_sl, ptrV_iface, ptrV_agg, ptrV_tuple, ptrV_func, renV_bool, renV_int, renV_string, renV_nilFunc, renV_nilIface, renV_nilPtr, renV_ptr, renV_nilSl, renV_sl, renV_iface, renV_agg, renV_tuple, renV_func, o_fieldAddr fa_35_2 (by decide), loadA_eq ia_3, o_fieldAddr fa_35_3 (by decide), loadA_eq ia_90, o_fieldAddr fa_89_1 (by decide), o_indexAddrA ea_87, o_indexAddrA ea_86, loadA_eq ia_85, o_fieldAddr fa_89_0 (by decide), o_indexAddrA ea_83, o_indexAddrA ea_82, loadA_eq ia_35, lenA_sl lk_101, o_indexAddrS es_101, za_35, sz_35, loadA_eq ia_79, sz_3, sz_85, n54_1s, n54_4s, n54_7s, n54_8s, n54_6s, n54_9s, n54_5s, n54_3s, n54_11s, n54_13s, n54_16s, n54_20s, n54_23s, n54_24s, n54_22s, n54_28s, n54_30s, n54_32s, n54_34s, n54_36s, n54_37s, n54_35s, n54_33s, n54_31s, n54_29s, n54_27s, n54_26s, n54_38s, n54_25s, n54_21s, n54_19s, n54_17s, n54_15s, n54_40s, n54_42s, n54_43s, n54_41s, n54_39s, n54_14s, n54_12s, n54_10s, n54_2s, n54_0s, want_some q54_4g3, want_some q54_4g8, want_some q54_34g2, Try.f54, b1, b2, plan_len, wi, hi, pS, ins, optAll, ptrB_plan', renB_plan']
      · obtain ⟨wr', hw, hl⟩ := key false
        simp only [Bool.false_eq_true, if_false] at hl
        simp only [aB, fB, planB]
        simp (disch := first | omega | decide | assumption | simp [scal]) [runOps_nil, runOps_cons, runOpsF_nil, runOpsF_cons, fstS_some, fstF_some, opStep_eq, want_none, oStep_true, oStep_false, fin_pure, fin_read, fin_alloc, fin_write, storeB, wrN, cellV, addWr, o_move, o_assign, o_pick, o_alloc, o_box, o_load, o_store, o_nilCheck, o_bin, o_un, o_extract, o_callV, o_callB, o_callI, callV_f, callV_y, callV_fc, o_makeFunc, partsA, Instr.fill, builtin_len, builtin_max2, bin_add, bin_sub, bin_mul, bin_quo, bin_rem, bin_lss, bin_leq, bin_gtr, bin_geq, bin_eql, bin_neq, un_neg, un_not, opd, opds, optAll, lk, putO, put, has, rep, nbeq, nblt, constOk, isC, ops, sub, cl, cr, co, bodyOf, thenS_normal, thenS_ret, thenS_exit, thenS_goto, afterN_normal, afterN_ret, afterN_exit, afterN_goto, condS_true, condS_false, blockS_normal, blockS_ret, blockS_exit, blockS_goto, loopS_exit, loopS_ret, plainS_some, drawS_some, fpsOk, disj, unord, mem, range', dropTo, enumT, undef, wrap_i64_id, Value.cells, mkCells, ptrTo, scal, cellsAt, rdN, endS_ret, resultsA, Option.bind_some, tupV, finish, reach, reachN, dep, ptrL_eq, ptrL, renL_eq, renL, ptrV_bool, ptrV_int, ptrV_string, ptrV_nilFunc, ptrV_nilIface, ptrV_nilPtr, ptrV_ptr, ptrV_nilSl, ptrV_sl, ptrV_iface, ptrV_agg, ptrV_tuple, ptrV_func, renV_bool, renV_int, renV_string, renV_nilFunc, renV_nilIface, renV_nilPtr, renV_ptr, renV_nilSl, renV_sl, renV_iface, renV_agg, renV_tuple, renV_func, o_fieldAddr fa_35_2 (by decide), loadA_eq ia_3, o_fieldAddr fa_35_3 (by decide), loadA_eq ia_90, o_fieldAddr fa_89_1 (by decide), o_indexAddrA ea_87, o_indexAddrA ea_86, loadA_eq ia_85, o_fieldAddr fa_89_0 (by decide), o_indexAddrA ea_83, o_indexAddrA ea_82, loadA_eq ia_35, lenA_sl lk_101, o_indexAddrS es_101, za_35, sz_35, loadA_eq ia_79, sz_3, sz_85, n54_1s, n54_4s, n54_7s, n54_8s, n54_6s, n54_9s, n54_5s, n54_3s, n54_11s, n54_13s, n54_16s, n54_20s, n54_23s, n54_24s, n54_22s, n54_28s, n54_30s, n54_32s, n54_34s, n54_36s, n54_37s, n54_35s, n54_33s, n54_31s, n54_29s, n54_27s, n54_26s, n54_38s, n54_25s, n54_21s, n54_19s, n54_17s, n54_15s, n54_40s, n54_42s, n54_43s, n54_41s, n54_39s, n54_14s, n54_12s, n54_10s, n54_2s, n54_0s, want_some q54_4g3, want_some q54_4g8, want_some q54_34g2, Try.f54, pT, pB, wi, hi, w1, neqI0, k5, lenA_sl lk_101]
        simp only [hq, wv_some] at hl pS
        rw [hl]
        rcases hw with rfl | rfl <;>
        simp (disch := first | omega | decide | assumption | simp [scal]) [runOps_nil, runOps_cons, runOpsF_nil, runOpsF_cons, fstS_some, fstF_some, opStep_eq, want_none, oStep_true, oStep_false, fin_pure, fin_read, fin_alloc, fin_write, storeB, wrN, cellV, addWr, o_move, o_assign, o_pick, o_alloc, o_box, o_load, o_store, o_nilCheck, o_bin, o_un, o_extract, o_callV, o_callB, o_callI, callV_f, callV_y, callV_fc, o_makeFunc, partsA, Instr.fill, builtin_len, builtin_max2, bin_add, bin_sub, bin_mul, bin_quo, bin_rem, bin_lss, bin_leq, bin_gtr, bin_geq, bin_eql, bin_neq, un_neg, un_not, opd, opds, optAll, lk, putO, put, has, rep, nbeq, nblt, constOk, isC, ops, sub, cl, cr, co, bodyOf, thenS_normal, thenS_ret, thenS_exit, thenS_goto, afterN_normal, afterN_ret, afterN_exit, afterN_goto, condS_true, condS_false, blockS_normal, blockS_ret, blockS_exit, blockS_goto, loopS_exit, loopS_ret, plainS_some, drawS_some, fpsOk, disj, unord, mem, range', dropTo, enumT, undef, wrap_i64_id, Value.cells, mkCells, ptrTo, scal, cellsAt, rdN, endS_ret, resultsA, Option.bind_some, tupV, finish, reach, reachN, dep, ptrL_eq, ptrL, renL_eq, renL, ptrV_bool, ptrV_int, ptrV_string, ptrV_nilFunc, ptrV_nilIface, ptrV_nilPtr, ptrV_ptr, ptrV_nilSl, ptrV_sl, ptrV_iface, ptrV_agg, ptrV_tuple, ptrV_func, renV_bool, renV_int, renV_string, renV_nilFunc, renV_nilIface, renV_nilPtr, renV_ptr, renV_nilSl, renV_sl, renV_iface, renV_agg, renV_tuple, renV_func, o_fieldAddr fa_35_2 (by decide), loadA_eq ia_3, o_fieldAddr fa_35_3 (by decide), loadA_eq ia_90, o_fieldAddr fa_89_1 (by decide), o_indexAddrA ea_87, o_indexAddrA ea_86, loadA_eq ia_85, o_fieldAddr fa_89_0 (by decide), o_indexAddrA ea_83, o_indexAddrA ea_82, loadA_eq ia_35, lenA_sl lk_101, o_indexAddrS es_101, za_35, sz_35, loadA_eq ia_79, sz_3, sz_85, n54_1s, n54_4s, n54_7s, n54_8s, n54_6s, n54_9s, n54_5s, n54_3s, n54_11s, n54_13s, n54_16s, n54_20s, n54_23s, n54_24s, n54_22s, n54_28s, n54_30s, n54_32s, n54_34s, n54_36s, n54_37s, n54_35s, n54_33s, n54_31s, n54_29s, n54_27s, n54_26s, n54_38s, n54_25s, n54_21s, n54_19s, n54_17s, n54_15s, n54_40s, n54_42s, n54_43s, n54_41s, n54_39s, n54_14s, n54_12s, n54_10s, n54_2s, n54_0s, want_some q54_4g3, want_some q54_4g8, want_some q54_34g2, Try.f54, b1, b2, plan_len, wi, hi, pS, ins, optAll, ptrB_plan', renB_plan']
end Go.Proofs.Ytgpcjdhlijompaa.ore

