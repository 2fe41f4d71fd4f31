/-
  Contracts of functions of the program at the limit evaluator. No condition.
-/
import Derived.Test.YtkmompbfcgjgmaaNBN
import Derived.Test.YtkmompbfcgjgmaaE40
namespace Go.Proofs.Ytkmompbfcgjgmaa.nt
open Go.GE
set_option linter.unusedVariables false
set_option linter.unusedSimpArgs false
set_option linter.unusedSectionVars false
set_option maxRecDepth 100000
set_option maxHeartbeats 4000000
attribute [local simp] runOps_nil runOps_cons runOpsF_nil runOpsF_cons fstS_some fstF_some opStep_eq want_none oStep_true oStep_false fin_pure fin_read fin_alloc fin_write storeB wrN cellV addWr o_move o_assign o_pick o_alloc o_box o_load o_store o_nilCheck o_bin o_un o_extract o_callV o_callB o_callI callV_f callV_y callV_fc o_makeFunc partsA Instr.fill builtin_len builtin_max2 bin_add bin_sub bin_mul bin_quo bin_rem bin_lss bin_leq bin_gtr bin_geq bin_eql bin_neq un_neg un_not bin_shr bin_shl wrap_u64_id opd opds optAll putO nbeq nblt constOk isC ops sub cl cr co bodyOf thenS_normal thenS_ret thenS_exit thenS_goto afterN_normal afterN_ret afterN_exit afterN_goto condS_true condS_false blockS_normal blockS_ret blockS_exit blockS_goto headS normS normK_eq fixS_nil fixS_cons fix1 fixV emptyB keepO_nil keepO_cons roundC_normal roundC_exit roundC_ret roundC_goto sweep_eq sweepD rnm pickR pickW rootsB ptrT renT ptrFn renFn ptrB_flat ptrB_non renB_flat renB_non plainS_some drawS_some fpsOk disj unord range' dropTo enumT undef wrap_i64_id Value.cells mkCells ptrTo scal cellsAt rdN endS_ret resultsA Option.bind_some tupV finish reachN dep ptrL_eq ptrL renL_eq renL ptrV_bool ptrV_int ptrV_string ptrV_nilFunc ptrV_nilIface ptrV_nilPtr ptrV_ptr ptrV_nilSl ptrV_sl ptrV_iface ptrV_agg ptrV_tuple ptrV_func renV_bool renV_int renV_string renV_nilFunc renV_nilIface renV_nilPtr renV_ptr renV_nilSl renV_sl renV_iface renV_agg renV_tuple renV_func gotoS_goto gotoS_normal gotoS_exit gotoS_ret skip_seq sliceE bnd bndHi intOf optOpd keepT_nil keepT_cons keepC_t keepC_f lk_nil lk_cons lkC_t lkC_f has_nil has_cons hasC_t hasC_f rep_nil rep_cons repC_t repC_f put_eq putC_t putC_f mem_nil mem_cons memC_t memC_f idx_nil idx_cons idxC_t idxC_f reach_nil reachP_cons reachQ_t reachQ_f ptrB_dead renB_dead ins_eq
attribute [local simp] n63_1s n63_3s n63_4s n63_2s n63_0s Try.f63 n67_1s n67_3s n67_4s n67_2s n67_0s Try.f67 n66_1s n66_3s n66_6s n66_10s n66_13s n66_14s n66_12s n66_18s n66_19s n66_17s n66_16s n66_20s n66_15s n66_11s n66_9s n66_8s n66_8g n66_7s n66_5s n66_22s n66_23s n66_21s n66_4s n66_2s n66_0s Try.f66 n54_1s n54_3s n54_6s n54_10s n54_13s n54_14s n54_12s n54_18s n54_19s n54_17s n54_16s n54_20s n54_15s n54_11s n54_9s n54_8s n54_8g n54_7s n54_5s n54_22s n54_23s n54_21s n54_4s n54_2s n54_0s Try.f54
theorem other {f : FuncId} (hf : (12 : Nat) ≠ f) (a : List Value) (h : List Blk) : (wk.wtab.keep kpT).run f a h = none := by
  show GE.tabR [wk.ew] f a h = none
  have : Nat.beq wk.ew.f f = false := GE.beq_false.2 hf
  simp only [tabR, this, Bool.false_and, cond_false]
theorem go {f : FuncId} {args : List Value} {h : List Blk} {r : RR} (hf : (12 : Nat) ≠ f) (he : runB Try.prog LL f args h = some r) : LL.run f args h = some r := L_run (other hf _ _) he
theorem k12 (h : List Blk) : callH LL 12 [] h = some ⟨.bool true, h, [], []⟩ := callH_plain (L_tab rfl) rfl rfl
abbrev sl (b off n c : Nat) : Value := .slice (some ⟨b, off, none⟩) n c
abbrev pp (b : Nat) : Value := .pointer (some ⟨b, 0, none⟩)
def zm (L : List Int) : List Value := L.map fun x => iv x
theorem zm_len {L : List Int} : (zm L).length = L.length := by simp [zm]
theorem zm_nil : zm [] = [] := rfl
abbrev zB (L : List Int) : Blk := .cells (zm L) 1 true true
/-- the cells of a polynomial come first in a block -/
def PoC (cs : List Value) (p : List Int) : Prop := ∀ i, i < p.length → cs[i]? = some (iv (p.getD i 0))
theorem PoC_zm {p : List Int} : PoC (zm p) p := by
  intro i hi
  simp [zm, hi]
theorem PoC_take {cs : List Value} {p : List Int} {k : Nat} (h : PoC cs p) : PoC cs (p.take k) := by
  intro i hi
  rw [List.length_take] at hi
  rw [h i (by omega)]
  simp [List.getD_eq_getElem?_getD, List.getElem?_take, show i < k by omega]
/-- cells that are being changed, one after the other -/
def mxL (f g : Nat → Int) (n i : Nat) : List Value := (List.range n).map fun j => iv (if j < i then f j else g j)
theorem mxL_len {f g : Nat → Int} {n i : Nat} : (mxL f g n i).length = n := by simp [mxL]
theorem mxL_get {f g : Nat → Int} {n i j : Nat} (h : j < n) (hj : i ≤ j) : (mxL f g n i)[j]? = some (iv (g j)) := by
  simp only [mxL, List.getElem?_map, List.getElem?_range h, Option.map_some]
  rw [if_neg (by omega)]
theorem mxL_set {f g : Nat → Int} {n i : Nat} (h : i < n) : (mxL f g n i).set i (iv (f i)) = mxL f g n (i + 1) := by
  apply List.ext_getElem?
  intro j
  rw [List.getElem?_set, mxL_len]
  by_cases hj : i = j
  · subst hj
    rw [if_pos rfl, if_pos h]
    simp only [mxL, List.getElem?_map, List.getElem?_range h, Option.map_some]
    rw [if_pos (by omega)]
  · rw [if_neg hj]
    by_cases hn : j < n
    · simp only [mxL, List.getElem?_map, List.getElem?_range hn, Option.map_some]
      by_cases h2 : j < i
      · rw [if_pos h2, if_pos (by omega)]
      · rw [if_neg h2, if_neg (by omega)]
    · rw [List.getElem?_eq_none (by rw [mxL_len]; omega), List.getElem?_eq_none (by rw [mxL_len]; omega)]
theorem mxL_zero {f g : Nat → Int} {n : Nat} : mxL f g n 0 = zm ((List.range n).map g) := by simp [mxL, zm]
theorem mxL_full {f g : Nat → Int} {n : Nat} : mxL f g n n = zm ((List.range n).map f) := by
  simp only [mxL, zm, List.map_map]
  refine List.map_congr_left fun j hj => ?_
  rw [List.mem_range] at hj
  simp [hj]
theorem mxL_rep {f : Nat → Int} {n : Nat} : mxL f (fun _ => 0) n 0 = List.replicate n (iv 0) := by
  apply List.ext_getElem?
  intro j
  by_cases hn : j < n
  · simp [mxL, hn]
  · rw [List.getElem?_eq_none (by rw [mxL_len]; omega), List.getElem?_eq_none (by simp; omega)]
theorem of_range {p : List Int} : (List.range p.length).map (fun i => p.getD i 0) = p := by
  apply List.ext_getElem?
  intro j
  by_cases hn : j < p.length
  · simp [hn]
  · rw [List.getElem?_eq_none (by simp; omega), List.getElem?_eq_none (by omega)]
/-- what a machine's integer can be -/
def Sm (x : Int) : Prop := -9223372036854775808 ≤ x ∧ x < 9223372036854775808
theorem Sm.w {x : Int} (h : Sm x) : IntKind.i64.wrap x = x := wrap_i64_id h.1 h.2
theorem mk71 {σ : Tm} {h : List Blk} {d : Option Nat} {ty : TypeId} {pos : String} {af : Array Edge} {g : Option (Nat × Bool)} {x y : Operand} : aop Try.prog LL σ h ⟨d, .makeSlice 71 x y, ty, pos, af, g⟩ = (match opd σ x, opd σ y with
    | some (.int _ n), some (.int _ k) => if 0 ≤ n ∧ n ≤ k ∧ k * 8 ≤ 70368744177664 ∧ k ≤ 70368744177664 then allocR h (.cells (List.replicate k.toNat (iv 0)) 1 true true) fun b => .slice (some ⟨b, 0, none⟩) n.toNat k.toNat else none
    | _, _ => none) := by
  have e1 : Try.prog.underlying 71 = some (.slice 3) := by kernel_rfl
  have e2 : (Try.prog.info? 3).map (fun i => (i.bytes, i.size)) = some (8, 1) := by kernel_rfl
  have e3 : zeroA Try.prog 3 = some (iv 0) := by kernel_rfl
  obtain ⟨i, hi, hp⟩ := Option.map_eq_some_iff.1 e2
  obtain ⟨h8, h1⟩ := Prod.mk.inj hp
  have hfl : ∀ k : Nat, (List.replicate k [iv 0]).flatten = List.replicate k (iv 0) := fun k => List.flatten_replicate_singleton
  simp only [aop, e1, e2, e3, hi, h8, h1]
  cases opd σ x with
  | none => rfl
  | some v =>
    cases v <;> try rfl
    cases opd σ y with
    | none => rfl
    | some w =>
      cases w <;> try rfl
      rename_i k1 n k2 m
      simp only [e3, hi, h8, h1]
      by_cases hc : 0 ≤ n ∧ n ≤ m ∧ m * 8 ≤ 70368744177664 ∧ m ≤ 70368744177664
      · rw [if_pos hc, if_pos ⟨hc.1, hc.2.1, by have := hc.2.2.1; omega, by have := hc.2.2.2; omega, by decide, rfl⟩]
        show allocR h (.cells ((List.replicate m.toNat [iv 0]).flatten) 1 true true) _ = _
        rw [hfl]
      · rw [if_neg hc, if_neg (fun h => hc ⟨h.1, h.2.1, by have := h.2.2.1; omega, by have := h.2.2.2.1; omega⟩)]
theorem builtin_min2 {h : List Blk} {ts : List TypeId} {k k' : IntKind} {a b : Int} : builtinA Try.prog h .min ts [.int k a, .int k' b] = pureR h (.int k (if b < a then b else a)) := by
  cases ts <;> rfl
theorem few {n : Nat} (h : n ≤ 60) : (n : Int) * 8 ≤ 70368744177664 ∧ (n : Int) ≤ 70368744177664 := by omega
def sg (z : Int) : Int := if 0 < z then 1 else if z < 0 then -1 else 0
theorem k63 (z : Int) (h : List Blk) : callH LL 63 [iv z] h = some ⟨iv (sg z), h, [], []⟩ := by
  refine callH_plain (go (by decide) ?_) rfl rfl
  rw [run63 _ _ _ (by simp)]
  unfold sg
  by_cases h1 : 0 < z
  · have e1 : -1 < z := by omega
    by_cases h2 : z < 1
    · omega
    · simp (maxSteps := 1000000) (disch := first | omega | decide | assumption | simp [scal]) [h1, e1, h2, builtin_min2]
  · by_cases h2 : z < 0
    · have e1 : ¬ -1 < z := by omega
      simp (maxSteps := 1000000) (disch := first | omega | decide | assumption | simp [scal]) [h1, h2, e1, builtin_min2]
    · have e1 : z = 0 := by omega
      subst e1
      simp (maxSteps := 1000000) (disch := first | omega | decide | assumption | simp [scal]) [builtin_min2]
/-- the last coefficient -/
def lst (p : List Int) : Int := p.getD (p.length - 1) 0
section
variable (b c : Nat) {cs : List Value} {own : Bool} {p : List Int} {h : List Blk} (hb : h[b]? = some (.cells cs 1 true own)) (hc : PoC cs p)
include hb hc
theorem k67 (h0 : 0 < p.length) (hn : p.length ≤ 60) : callH LL 67 [sl b 0 p.length c] h = some ⟨iv (lst p), h, [b], []⟩ := by
  refine callH_1 rfl hb noIdB_flat (args' := [sl 0 0 p.length c]) (by simp [renV, dep, optAll, idx, nbeq]) (go (by decide) ?_) fun _ => rfl
  rw [run67 _ _ _ (by simp)]
  unfold lst
  have p1 := hc (p.length - 1) (by omega)
  generalize p.getD (p.length - 1) 0 = v at *
  obtain ⟨m, hm⟩ : ∃ m, p.length = m + 1 := ⟨p.length - 1, by omega⟩
  rw [hm, Nat.add_sub_cancel] at p1
  rw [hm]
  rw [hm] at hn
  clear hb hc h0
  have e1 : ((m + 1 : Nat) : Int) - 1 = m := by omega
  have e2 : m < m + 1 := by omega
  have e3 : (m : Int) < (m : Int) + 1 := by omega
  have e4 : m ≤ 59 := by omega
  simp only [cast1] at e1 ⊢
  simp (maxSteps := 1000000) (disch := first | omega | decide | assumption | simp [scal]) [lenA_sl lk_71, o_indexAddrS es_71, loadA_eq ia_3, e1, e2, e3, p1]
end
/-- times a number -/
def tms (p : List Int) (m : Int) : List Int := (List.range p.length).map fun i => p.getD i 0 * m
theorem tms_len {p : List Int} {m : Int} : (tms p m).length = p.length := by simp [tms]
theorem l66 (c : Nat) {cs : List Value} {own : Bool} {p : List Int} (hc : PoC cs p) (hn : p.length ≤ 60) (m : Int) (hs : ∀ i, i < p.length → Sm (p.getD i 0 * m)) : ∀ (q i : Nat), i + q = p.length →
    lpB Try.prog LL ⟨66, 26, 1, none⟩ n66_8 n66_9 ⟨[(1, iv m), (5, sl 1 0 p.length p.length), (11, sl 0 0 p.length c), (12, iv p.length), (13, iv i)], [.cells cs 1 true own, .cells (mxL (fun i => p.getD i 0 * m) (fun _ => 0) p.length i) 1 true true], []⟩ =
      some (.exit 0, ⟨[(5, sl 1 0 p.length p.length)], [.cells cs 1 true own, zB (tms p m)], []⟩) := by
  intro q
  induction q with
  | zero =>
    intro i hi
    obtain rfl : i = p.length := by omega
    rw [show mxL (fun i => p.getD i 0 * m) (fun _ => 0) p.length p.length = zm (tms p m) from mxL_full]
    simp only [zB]
    generalize zm (tms p m) = X
    rw [lpB_eq]
    simp (maxSteps := 1000000) (disch := first | omega | decide | assumption | simp [scal]) [lenA_sl lk_71, o_indexAddrS es_71, loadA_eq ia_3, sz_3]
  | succ q ih =>
    intro i hi
    have e0 : i < p.length := by omega
    have e1 : (i : Int) < p.length := by omega
    have this := ih (i + 1) (by omega)
    have p1 := hc i e0
    have w := (hs i e0).w
    have hset := mxL_set (f := fun i => p.getD i 0 * m) (g := fun _ => 0) e0
    have hl := mxL_len (f := fun i => p.getD i 0 * m) (g := fun _ => 0) (n := p.length) (i := i)
    rw [← hset] at this
    clear ih hset hs
    simp only [cast1] at this
    simp only [zB] at this ⊢
    generalize mxL _ _ _ i = R at *
    generalize p.getD i 0 = x at *
    generalize zm _ = X at *
    generalize p.length = n at *
    rw [lpB_eq]
    simp (maxSteps := 1000000) (disch := first | omega | decide | assumption | simp [scal]) [lenA_sl lk_71, o_indexAddrS es_71, loadA_eq ia_3, sz_3, e0, e1, p1, w, hl, this]
section
variable (b c : Nat) {cs : List Value} {own : Bool} {p : List Int} {h : List Blk} (hb : h[b]? = some (.cells cs 1 true own)) (hc : PoC cs p)
include hb hc
theorem k66 (hn : p.length ≤ 60) (m : Int) (hs : ∀ i, i < p.length → Sm (p.getD i 0 * m)) : callH LL 66 [sl b 0 p.length c, iv m] h = some ⟨sl h.length 0 p.length p.length, h ++ [zB (tms p m)], [b], []⟩ := by
  refine callN_1 rfl hb noIdB_flat (args' := [sl 0 0 p.length c, iv m]) (by simp [renV, dep, optAll, idx, nbeq]) (v := sl 1 0 p.length p.length) (news := [zB (tms p m)]) (go (by decide) ?_) (by intro blk hb; simp only [List.mem_singleton] at hb; subst hb; exact noIdB_flat) (by simp [renV, dep])
  have this := l66 c (own := own) hc hn m hs p.length 0 (by omega)
  rw [mxL_rep] at this
  simp only [zB, Int.natCast_zero] at this ⊢
  generalize zm _ = X at *
  obtain ⟨q1, q2⟩ := few hn
  rw [run66 _ _ _ (by simp)]
  simp (maxSteps := 1000000) (disch := first | omega | decide | assumption | simp [scal]) [lenA_sl lk_71, o_indexAddrS es_71, loadA_eq ia_3, sz_3, mk71, q1, q2, this]
end
/-- the derivative -/
def slp (p : List Int) : List Int := (List.range (p.length - 1)).map fun i => p.getD (i + 1) 0 * ((i : Int) + 1)
theorem slp_len {p : List Int} : (slp p).length = p.length - 1 := by simp [slp]
theorem l54 (c n : Nat) {cs : List Value} {own : Bool} {p : List Int} (hp : p.length = n + 1) (hc : PoC cs p) (hn : p.length ≤ 60) (hs : ∀ i, i < n → Sm (p.getD (i + 1) 0 * ((i : Int) + 1))) : ∀ (q i : Nat), i + q = n →
    lpB Try.prog LL ⟨54, 27, 1, none⟩ n54_8 n54_9 ⟨[(0, sl 0 0 (n + 1) c), (3, sl 1 0 n n), (10, iv n), (11, iv i)], [.cells cs 1 true own, .cells (mxL (fun i => p.getD (i + 1) 0 * ((i : Int) + 1)) (fun _ => 0) n i) 1 true true], []⟩ =
      some (.exit 0, ⟨[(3, sl 1 0 n n)], [.cells cs 1 true own, zB (slp p)], []⟩) := by
  intro q
  induction q with
  | zero =>
    intro i hi
    obtain rfl : i = n := by omega
    rw [show mxL (fun i => p.getD (i + 1) 0 * ((i : Int) + 1)) (fun _ => 0) i i = zm (slp p) by unfold slp; rw [mxL_full, hp, Nat.add_sub_cancel]]
    simp only [zB]
    generalize zm (slp p) = X
    rw [lpB_eq]
    simp (maxSteps := 1000000) (disch := first | omega | decide | assumption | simp [scal]) [lenA_sl lk_71, o_indexAddrS es_71, loadA_eq ia_3, sz_3]
  | succ q ih =>
    intro i hi
    have e0 : i < n := by omega
    have e1 : (i : Int) < n := by omega
    have this := ih (i + 1) (by omega)
    have p1 := hc (i + 1) (by omega)
    have w := (hs i e0).w
    have hset := mxL_set (f := fun i => p.getD (i + 1) 0 * ((i : Int) + 1)) (g := fun _ => 0) e0
    have hl := mxL_len (f := fun i => p.getD (i + 1) 0 * ((i : Int) + 1)) (g := fun _ => 0) (n := n) (i := i)
    rw [← hset] at this
    clear ih hset hs
    simp only [cast1] at this
    simp only [zB] at this ⊢
    have e2 : i < n + 1 := by omega
    have e3 : i + 1 < n + 1 := by omega
    have e4 : ((i : Int) + 1).toNat = i + 1 := by omega
    have e5 : 0 ≤ (i : Int) + 1 := by omega
    generalize mxL _ _ _ i = R at *
    generalize p.getD (i + 1) 0 = x at *
    generalize zm _ = X at *
    rw [lpB_eq]
    simp (maxSteps := 1000000) (disch := first | omega | decide | assumption | simp [scal]) [lenA_sl lk_71, o_indexAddrS es_71, loadA_eq ia_3, sz_3, e0, e1, e2, e3, e4, e5, p1, w, hl, this]
section
variable (b c : Nat) {cs : List Value} {own : Bool} {p : List Int} {h : List Blk} (hb : h[b]? = some (.cells cs 1 true own)) (hc : PoC cs p)
include hb hc
theorem k54 (h0 : 0 < p.length) (hn : p.length ≤ 60) (hs : ∀ i, i < p.length - 1 → Sm (p.getD (i + 1) 0 * ((i : Int) + 1))) : callH LL 54 [sl b 0 p.length c] h = some ⟨sl h.length 0 (p.length - 1) (p.length - 1), h ++ [zB (slp p)], [b], []⟩ := by
  obtain ⟨n, hp⟩ : ∃ n, p.length = n + 1 := ⟨p.length - 1, by omega⟩
  refine callN_1 rfl hb noIdB_flat (args' := [sl 0 0 p.length c]) (by simp [renV, dep, optAll, idx, nbeq]) (v := sl 1 0 (p.length - 1) (p.length - 1)) (news := [zB (slp p)]) (go (by decide) ?_) (by intro blk hb; simp only [List.mem_singleton] at hb; subst hb; exact noIdB_flat) (by simp [renV, dep])
  have this := l54 c n (own := own) hp hc hn (by rwa [hp, Nat.add_sub_cancel] at hs) n 0 (by omega)
  rw [mxL_rep] at this
  rw [hp, Nat.add_sub_cancel]
  simp only [zB, Int.natCast_zero] at this ⊢
  generalize zm _ = X at *
  have e1 : ((n + 1 : Nat) : Int) - 1 = n := by omega
  simp only [cast1] at e1
  obtain ⟨q1, q2⟩ := few (n := n) (by omega)
  rw [run54 _ _ _ (by simp)]
  simp (maxSteps := 1000000) (disch := first | omega | decide | assumption | simp [scal]) [lenA_sl lk_71, o_indexAddrS es_71, loadA_eq ia_3, sz_3, mk71, e1, q1, q2, this]
end
end Go.Proofs.Ytkmompbfcgjgmaa.nt
namespace Go.Proofs.Ytkmompbfcgjgmaa.nt
open Go.GE
set_option linter.unusedVariables false
set_option linter.unusedSimpArgs false
set_option linter.unusedSectionVars false
set_option maxRecDepth 100000
set_option maxHeartbeats 4000000
attribute [local simp] runOps_nil runOps_cons runOpsF_nil runOpsF_cons fstS_some fstF_some opStep_eq want_none oStep_true oStep_false fin_pure fin_read fin_alloc fin_write storeB wrN cellV addWr o_move o_assign o_pick o_alloc o_box o_load o_store o_nilCheck o_bin o_un o_extract o_callV o_callB o_callI callV_f callV_y callV_fc o_makeFunc partsA Instr.fill builtin_len builtin_max2 bin_add bin_sub bin_mul bin_quo bin_rem bin_lss bin_leq bin_gtr bin_geq bin_eql bin_neq un_neg un_not bin_shr bin_shl wrap_u64_id opd opds optAll putO nbeq nblt constOk isC ops sub cl cr co bodyOf thenS_normal thenS_ret thenS_exit thenS_goto afterN_normal afterN_ret afterN_exit afterN_goto condS_true condS_false blockS_normal blockS_ret blockS_exit blockS_goto headS normS normK_eq fixS_nil fixS_cons fix1 fixV emptyB keepO_nil keepO_cons roundC_normal roundC_exit roundC_ret roundC_goto sweep_eq sweepD rnm pickR pickW rootsB ptrT renT ptrFn renFn ptrB_flat ptrB_non renB_flat renB_non plainS_some drawS_some fpsOk disj unord range' dropTo enumT undef wrap_i64_id Value.cells mkCells ptrTo scal cellsAt rdN endS_ret resultsA Option.bind_some tupV finish reachN dep ptrL_eq ptrL renL_eq renL ptrV_bool ptrV_int ptrV_string ptrV_nilFunc ptrV_nilIface ptrV_nilPtr ptrV_ptr ptrV_nilSl ptrV_sl ptrV_iface ptrV_agg ptrV_tuple ptrV_func renV_bool renV_int renV_string renV_nilFunc renV_nilIface renV_nilPtr renV_ptr renV_nilSl renV_sl renV_iface renV_agg renV_tuple renV_func gotoS_goto gotoS_normal gotoS_exit gotoS_ret skip_seq sliceE bnd bndHi intOf optOpd keepT_nil keepT_cons keepC_t keepC_f lk_nil lk_cons lkC_t lkC_f has_nil has_cons hasC_t hasC_f rep_nil rep_cons repC_t repC_f put_eq putC_t putC_f mem_nil mem_cons memC_t memC_f idx_nil idx_cons idxC_t idxC_f reach_nil reachP_cons reachQ_t reachQ_f ptrB_dead renB_dead ins_eq
attribute [local simp] n71_1s n71_3s n71_6s n71_10s n71_13s n71_14s n71_12s n71_18s n71_21s n71_26s n71_28s n71_29s n71_27s n71_25s n71_31s n71_30s n71_24s n71_23s n71_23g n71_22s n71_20s n71_33s n71_35s n71_36s n71_34s n71_32s n71_19s n71_17s n71_16s n71_37s n71_15s n71_11s n71_9s n71_8s n71_8g n71_7s n71_5s n71_39s n71_42s n71_46s n71_49s n71_50s n71_48s n71_54s n71_55s n71_53s n71_52s n71_56s n71_51s n71_47s n71_45s n71_44s n71_44g n71_43s n71_41s n71_58s n71_59s n71_57s n71_40s n71_38s n71_4s n71_2s n71_0s Try.f71 n78_1s n78_7s n78_9s n78_10s n78_8s n78_6s n78_12s n78_11s n78_5s n78_4s n78_4g n78_3s n78_14s n78_15s n78_13s n78_2s n78_0s Try.f78
/-- how far the coefficients reach that are not 0 -/
def dgL (p : List Int) : Nat → Nat → Nat → Nat
  | 0, _, k => k
  | q + 1, i, k => dgL p q (i + 1) (if p.getD i 0 = 0 then k else i + 1)
def gcL (p : List Int) : Nat → Nat → Nat → Nat
  | 0, _, d => d
  | q + 1, i, d => gcL p q (i + 1) (Nat.gcd d (p.getD i 0).natAbs)
def dgP (p : List Int) : Nat := dgL p p.length 0 0
def gcP (p : List Int) : Nat := gcL p p.length 0 0
def lea (p : List Int) : List Int := (List.range (dgP p)).map fun i => (p.getD i 0).tdiv (gcP p)
theorem dgL_le {p : List Int} : ∀ q i k, k ≤ i → dgL p q i k ≤ i + q := by
  intro q
  induction q with
  | zero => intro i k h; exact h
  | succ q ih =>
    intro i k h
    have := ih (i + 1) (if p.getD i 0 = 0 then k else i + 1) (by split <;> omega)
    unfold dgL; omega
theorem dgP_le {p : List Int} : dgP p ≤ p.length := by
  have := dgL_le (p := p) p.length 0 0 (Nat.le_refl _)
  unfold dgP; omega
theorem lea_len {p : List Int} : (lea p).length = dgP p := by simp [lea]
section
variable (c : Nat) {cs : List Value} {own : Bool} {p : List Int} (hc : PoC cs p) (hn : p.length ≤ 60)
include hc hn
theorem l71g (i k n : Nat) (x : Int) : ∀ (a d : Nat), a < 9223372036854775808 → d < 9223372036854775808 →
    lpB Try.prog LL ⟨71, 50, 1, none⟩ n71_23 n71_24 ⟨[(5, iv i), (6, iv x), (7, iv a), (0, sl 0 0 p.length c), (3, iv d), (4, iv k), (10, sl 0 0 p.length c), (11, iv n), (12, iv i)], [.cells cs 1 true own], []⟩ =
      some (.exit 2, ⟨[(5, iv i), (6, iv x), (0, sl 0 0 p.length c), (3, iv (Nat.gcd a d : Nat)), (4, iv k), (10, sl 0 0 p.length c), (11, iv n), (12, iv i)], [.cells cs 1 true own], []⟩) := by
  intro a
  induction a using Nat.strongRecOn with
  | _ a ih =>
    intro d ha hd
    by_cases h0 : a = 0
    · subst h0
      rw [Nat.gcd_zero_left]
      simp only [Int.natCast_zero]
      rw [lpB_eq]
      simp (maxSteps := 1000000) (disch := first | omega | decide | assumption | simp [scal]) [lenA_sl lk_71, o_indexAddrS es_71, loadA_eq ia_3, sz_3]
    · have hm : d % a < a := Nat.mod_lt _ (by omega)
      have this := ih (d % a) hm a (by omega) ha
      rw [← Nat.gcd_rec] at this
      have e1 : 0 < a := by omega
      have e2 : (0 : Int) < a := by omega
      have e3 : ¬ (a : Int) = 0 := by omega
      have e4 : Int.tmod (d : Int) (a : Int) = ((d % a : Nat) : Int) := rfl
      clear ih
      generalize ((d % a : Nat) : Int) = r at *
      generalize Nat.gcd a d = g at *
      rw [lpB_eq]
      simp (maxSteps := 1000000) (disch := first | omega | decide | assumption | simp [scal]) [lenA_sl lk_71, o_indexAddrS es_71, loadA_eq ia_3, sz_3, e1, e2, e3, e4, h0, this]
theorem l71 (hs : ∀ x, x ∈ p → -9223372036854775808 < x ∧ x < 9223372036854775808) : ∀ (q i k d : Nat), i + q = p.length → k ≤ i → d < 9223372036854775808 →
    lpB Try.prog LL ⟨71, 50, 1, none⟩ n71_8 n71_9 ⟨[(0, sl 0 0 p.length c), (3, iv d), (4, iv k), (10, sl 0 0 p.length c), (11, iv p.length), (12, iv i)], [.cells cs 1 true own], []⟩ =
      some (.exit 0, ⟨[(0, sl 0 0 p.length c), (3, iv (gcL p q i d : Nat)), (4, iv (dgL p q i k : Nat))], [.cells cs 1 true own], []⟩) := by
  intro q
  induction q with
  | zero =>
    intro i k d hi hk hd
    obtain rfl : i = p.length := by omega
    simp only [gcL, dgL]
    rw [lpB_eq]
    simp (maxSteps := 1000000) (disch := first | omega | decide | assumption | simp [scal]) [lenA_sl lk_71, o_indexAddrS es_71, loadA_eq ia_3, sz_3]
  | succ q ih =>
    intro i k d hi hk hd
    have e0 : i < p.length := by omega
    have e1 : (i : Int) < p.length := by omega
    have p1 := hc i e0
    have hx : p.getD i 0 = p[i] := by simp [e0]
    have hb := hs (p.getD i 0) (by rw [hx]; exact List.getElem_mem _)
    simp only [gcL, dgL]
    have hg : Nat.gcd d (p.getD i 0).natAbs < 9223372036854775808 := by
      by_cases hz : d = 0
      · subst hz; rw [Nat.gcd_zero_left]; omega
      · have := Nat.gcd_le_left (n := (p.getD i 0).natAbs) (show 0 < d by omega); omega
    have lg := l71g c (own := own) hc hn i k p.length (p.getD i 0) (p.getD i 0).natAbs d (by omega) hd
    rw [Nat.gcd_comm] at lg
    have ew : IntKind.i64.wrap (-(p.getD i 0)) = -(p.getD i 0) := wrap_i64_id (by omega) (by omega)
    by_cases h0 : p.getD i 0 = 0
    · rw [if_pos h0]
      have this := ih (i + 1) k (Nat.gcd d (p.getD i 0).natAbs) (by omega) (by omega) hg
      rw [h0] at p1 ew lg this ⊢
      simp only [cast1] at this
      clear ih hs hb hx hg h0
      simp only [Int.natAbs_zero, Int.natCast_zero] at lg this ⊢
      generalize gcL p q (i + 1) _ = Z1 at *
      generalize dgL p q (i + 1) _ = Z2 at *
      generalize Nat.gcd d 0 = g at *
      rw [lpB_eq]
      simp (maxSteps := 1000000) (disch := first | omega | decide | assumption | simp [scal]) [lenA_sl lk_71, o_indexAddrS es_71, loadA_eq ia_3, sz_3, e0, e1, p1, lg, this]
    · rw [if_neg h0]
      have this := ih (i + 1) (i + 1) (Nat.gcd d (p.getD i 0).natAbs) (by omega) (by omega) hg
      simp only [cast1] at this
      generalize gcL p q (i + 1) _ = Z1 at *
      generalize dgL p q (i + 1) _ = Z2 at *
      generalize Nat.gcd d _ = g at *
      generalize p.getD i 0 = x at *
      clear ih hs hx hg
      by_cases h1 : -x > x
      · have e3 : ((x.natAbs : Nat) : Int) = -x := by omega
        rw [e3] at lg
        have h1' : x < -x := h1
        rw [lpB_eq]
        simp (maxSteps := 1000000) (disch := first | omega | decide | assumption | simp [scal]) [lenA_sl lk_71, o_indexAddrS es_71, loadA_eq ia_3, sz_3, e0, e1, p1, h0, h1', ew, lg, this]
      · have e3 : ((x.natAbs : Nat) : Int) = x := by omega
        rw [e3] at lg
        have h1' : ¬ x < -x := h1
        rw [lpB_eq]
        simp (maxSteps := 1000000) (disch := first | omega | decide | assumption | simp [scal]) [lenA_sl lk_71, o_indexAddrS es_71, loadA_eq ia_3, sz_3, e0, e1, p1, h0, h1', ew, lg, this]
theorem l71b (k d : Nat) (hk : k ≤ p.length) (hd : 0 < d) (hs : ∀ x, x ∈ p → -9223372036854775808 < x ∧ x < 9223372036854775808) : ∀ (q i : Nat), i + q = k →
    lpB Try.prog LL ⟨71, 50, 1, none⟩ n71_44 n71_45 ⟨[(0, sl 0 0 p.length c), (3, iv d), (8, sl 1 0 k k), (35, iv k), (36, iv i)], [.cells cs 1 true own, .cells (mxL (fun i => (p.getD i 0).tdiv d) (fun _ => 0) k i) 1 true true], []⟩ =
      some (.exit 4, ⟨[(8, sl 1 0 k k)], [.cells cs 1 true own, zB ((List.range k).map fun i => (p.getD i 0).tdiv d)], []⟩) := by
  intro q
  induction q with
  | zero =>
    intro i hi
    obtain rfl : i = k := by omega
    rw [mxL_full]
    simp only [zB]
    generalize zm _ = X
    rw [lpB_eq]
    simp (maxSteps := 1000000) (disch := first | omega | decide | assumption | simp [scal]) [lenA_sl lk_71, o_indexAddrS es_71, loadA_eq ia_3, sz_3]
  | succ q ih =>
    intro i hi
    have e0 : i < k := by omega
    have e1 : (i : Int) < k := by omega
    have e2 : i < p.length := by omega
    have e2' : (i : Int) < p.length := by omega
    have this := ih (i + 1) (by omega)
    have p1 := hc i e2
    have hx : p.getD i 0 = p[i] := by simp [e2]
    have hb := hs (p.getD i 0) (by rw [hx]; exact List.getElem_mem _)
    have hq : (Int.tdiv (p.getD i 0) d).natAbs ≤ (p.getD i 0).natAbs := by
      rw [Int.natAbs_tdiv]; exact Nat.div_le_self _ _
    have w : IntKind.i64.wrap ((p.getD i 0).tdiv d) = (p.getD i 0).tdiv d := wrap_i64_id (by omega) (by omega)
    have hset := mxL_set (f := fun i => (p.getD i 0).tdiv d) (g := fun _ => 0) e0
    have hl := mxL_len (f := fun i => (p.getD i 0).tdiv d) (g := fun _ => 0) (n := k) (i := i)
    rw [← hset] at this
    have e3 : ¬ (d : Int) = 0 := by omega
    have e4 : ¬ d = 0 := by omega
    clear ih hset hs hb hq
    simp only [cast1] at this
    simp only [zB] at this ⊢
    generalize mxL _ _ _ i = R at *
    generalize p.getD i 0 = x at *
    generalize zm _ = X at *
    rw [lpB_eq]
    simp (maxSteps := 1000000) (disch := first | omega | decide | assumption | simp [scal]) [lenA_sl lk_71, o_indexAddrS es_71, loadA_eq ia_3, sz_3, e0, e1, e2, e2', e3, e4, p1, w, hl, this]
end
theorem gcL_pos {p : List Int} : ∀ q i d, (0 < d ∨ ∃ j, i ≤ j ∧ j < i + q ∧ p.getD j 0 ≠ 0) → 0 < gcL p q i d := by
  intro q
  induction q with
  | zero => intro i d h; rcases h with h | ⟨j, h1, h2, _⟩; exact h; omega
  | succ q ih =>
    intro i d h
    unfold gcL
    refine ih _ _ ?_
    rcases h with h | ⟨j, h1, h2, h3⟩
    · exact .inl (Nat.gcd_pos_of_pos_left _ h)
    · by_cases e : j = i
      · subst e; exact .inl (Nat.gcd_pos_of_pos_right _ (by omega))
      · exact .inr ⟨j, by omega, by omega, h3⟩
theorem dgL_pos {p : List Int} : ∀ q i k, (∀ j, i ≤ j → j < i + q → p.getD j 0 = 0) → dgL p q i k = k := by
  intro q
  induction q with
  | zero => intro i k _; rfl
  | succ q ih =>
    intro i k h
    unfold dgL
    rw [if_pos (h i (by omega) (by omega))]
    exact ih _ _ fun j h1 h2 => h j (by omega) (by omega)
theorem gcP_pos {p : List Int} (h : 0 < dgP p) : 0 < gcP p := by
  unfold gcP
  refine gcL_pos _ _ _ (.inr ?_)
  refine Classical.byContradiction fun hn => ?_
  have := dgL_pos (p := p) p.length 0 0 fun j h1 h2 => Classical.byContradiction fun h3 => hn ⟨j, h1, h2, h3⟩
  unfold dgP at h
  omega
section
variable (b c : Nat) {cs : List Value} {own : Bool} {p : List Int} {h : List Blk} (hb : h[b]? = some (.cells cs 1 true own)) (hc : PoC cs p)
include hb hc
theorem k71 (hn : p.length ≤ 60) (hs : ∀ x, x ∈ p → -9223372036854775808 < x ∧ x < 9223372036854775808) : callH LL 71 [sl b 0 p.length c] h = some ⟨sl h.length 0 (dgP p) (dgP p), h ++ [zB (lea p)], [b], []⟩ := by
  refine callN_1 rfl hb noIdB_flat (args' := [sl 0 0 p.length c]) (by simp [renV, dep, optAll, idx, nbeq]) (v := sl 1 0 (dgP p) (dgP p)) (news := [zB (lea p)]) (go (by decide) ?_) (by intro blk hb; simp only [List.mem_singleton] at hb; subst hb; exact noIdB_flat) (by simp [renV, dep])
  have l1 := l71 c (own := own) hc hn hs p.length 0 0 0 (by omega) (by omega) (by omega)
  have hdl := dgP_le (p := p)
  obtain ⟨q1, q2⟩ := few (n := dgP p) (by omega)
  rw [show gcL p p.length 0 0 = gcP p from rfl, show dgL p p.length 0 0 = dgP p from rfl] at l1
  unfold lea
  by_cases h0 : dgP p = 0
  · rw [h0] at l1 ⊢
    simp only [zB, Int.natCast_zero, List.range_zero, List.map_nil, zm_nil] at l1 ⊢
    generalize gcP p = d at *
    rw [run71 _ _ _ (by simp)]
    have l3 : lpB Try.prog LL ⟨71, 50, 1, none⟩ n71_44 n71_45 ⟨[(0, sl 0 0 p.length c), (3, iv d), (8, sl 1 0 0 0), (35, iv 0), (36, iv 0)], [.cells cs 1 true own, .cells [] 1 true true], []⟩ = some (.exit 4, ⟨[(8, sl 1 0 0 0)], [.cells cs 1 true own, .cells [] 1 true true], []⟩) := by
      rw [lpB_eq]
      simp (maxSteps := 1000000) (disch := first | omega | decide | assumption | simp [scal]) [lenA_sl lk_71, o_indexAddrS es_71, loadA_eq ia_3, sz_3]
    simp (maxSteps := 1000000) (disch := first | omega | decide | assumption | simp [scal]) [lenA_sl lk_71, o_indexAddrS es_71, loadA_eq ia_3, sz_3, mk71, l1, l3]
  · have hd := gcP_pos (p := p) (by omega)
    have l2 := l71b c (own := own) hc hn (dgP p) (gcP p) hdl hd hs (dgP p) 0 (by omega)
    rw [mxL_rep] at l2
    simp only [zB, Int.natCast_zero] at l1 l2 ⊢
    generalize zm _ = X at *
    generalize gcP p = d at *
    generalize dgP p = k at *
    rw [run71 _ _ _ (by simp)]
    simp (maxSteps := 1000000) (disch := first | omega | decide | assumption | simp [scal]) [lenA_sl lk_71, o_indexAddrS es_71, loadA_eq ia_3, sz_3, mk71, q1, q2, l1, l2]
end
/-- without zeros at its end -/
def trmN (p : List Int) : Nat → Nat
  | 0 => 0
  | k + 1 => if p.getD k 0 = 0 then trmN p k else k + 1
theorem trmN_le {p : List Int} : ∀ k, trmN p k ≤ k := by
  intro k
  induction k with
  | zero => exact Nat.le_refl _
  | succ k ih => unfold trmN; split <;> omega
theorem l78 (c : Nat) {cs : List Value} {own : Bool} {p : List Int} (hc : PoC cs p) : ∀ (k : Nat), k ≤ p.length → k ≤ c → k ≤ 60 →
    lpB Try.prog LL ⟨78, 17, 1, none⟩ n78_4 n78_5 ⟨[(0, sl 0 0 k c)], [.cells cs 1 true own], []⟩ =
      some (.exit 0, ⟨[(0, sl 0 0 (trmN p k) c)], [.cells cs 1 true own], []⟩) := by
  intro k
  induction k with
  | zero =>
    intro _ _ _
    simp only [trmN]
    rw [lpB_eq]
    simp (maxSteps := 1000000) (disch := first | omega | decide | assumption | simp [scal]) [lenA_sl lk_71, o_sliceS sl_71, want_some q78_7g3]
  | succ k ih =>
    intro h1 h2 h3
    have a := k67 0 c (own := own) (p := p.take (k + 1)) (h := [.cells cs 1 true own]) rfl (PoC_take hc) (by rw [List.length_take]; omega) (by rw [List.length_take]; omega)
    rw [show (p.take (k + 1)).length = k + 1 by rw [List.length_take]; omega, show lst (p.take (k + 1)) = p.getD k 0 by
      unfold lst; rw [show (p.take (k + 1)).length = k + 1 by rw [List.length_take]; omega]; simp [List.getD_eq_getElem?_getD, List.getElem?_take]] at a
    have this := ih (by omega) (by omega) (by omega)
    simp only [trmN]
    have e1 : (0 : Int) < (k : Int) + 1 := by omega
    have e2 : (k : Int) + 1 - 1 = k := by omega
    have e3 : (k : Int) ≤ c := by omega
    have e4 : k ≤ c := by omega
    clear ih
    by_cases h0 : p.getD k 0 = 0
    · rw [if_pos h0]
      rw [h0] at a
      generalize trmN p k = Z at *
      rw [lpB_eq]
      simp (maxSteps := 1000000) (disch := first | omega | decide | assumption | simp [scal]) [lenA_sl lk_71, o_sliceS sl_71, want_some q78_7g3, e1, e2, e3, e4, a, this]
    · rw [if_neg h0]
      generalize p.getD k 0 = x at *
      rw [lpB_eq]
      simp (maxSteps := 1000000) (disch := first | omega | decide | assumption | simp [scal]) [lenA_sl lk_71, o_sliceS sl_71, want_some q78_7g3, e1, e2, e3, e4, h0, a]
end Go.Proofs.Ytkmompbfcgjgmaa.nt
namespace Go.Proofs.Ytkmompbfcgjgmaa.nt
open Go.GE
set_option linter.unusedVariables false
set_option linter.unusedSimpArgs false
set_option linter.unusedSectionVars false
set_option maxRecDepth 100000
set_option maxHeartbeats 4000000
attribute [local simp] runOps_nil runOps_cons runOpsF_nil runOpsF_cons fstS_some fstF_some opStep_eq want_none oStep_true oStep_false fin_pure fin_read fin_alloc fin_write storeB wrN cellV addWr o_move o_assign o_pick o_alloc o_box o_load o_store o_nilCheck o_bin o_un o_extract o_callV o_callB o_callI callV_f callV_y callV_fc o_makeFunc partsA Instr.fill builtin_len builtin_max2 bin_add bin_sub bin_mul bin_quo bin_rem bin_lss bin_leq bin_gtr bin_geq bin_eql bin_neq un_neg un_not bin_shr bin_shl wrap_u64_id opd opds optAll putO nbeq nblt constOk isC ops sub cl cr co bodyOf thenS_normal thenS_ret thenS_exit thenS_goto afterN_normal afterN_ret afterN_exit afterN_goto condS_true condS_false blockS_normal blockS_ret blockS_exit blockS_goto headS normS normK_eq fixS_nil fixS_cons fix1 fixV emptyB keepO_nil keepO_cons roundC_normal roundC_exit roundC_ret roundC_goto sweep_eq sweepD rnm pickR pickW rootsB ptrT renT ptrFn renFn ptrB_flat ptrB_non renB_flat renB_non plainS_some drawS_some fpsOk disj unord range' dropTo enumT undef wrap_i64_id Value.cells mkCells ptrTo scal cellsAt rdN endS_ret resultsA Option.bind_some tupV finish reachN dep ptrL_eq ptrL renL_eq renL ptrV_bool ptrV_int ptrV_string ptrV_nilFunc ptrV_nilIface ptrV_nilPtr ptrV_ptr ptrV_nilSl ptrV_sl ptrV_iface ptrV_agg ptrV_tuple ptrV_func renV_bool renV_int renV_string renV_nilFunc renV_nilIface renV_nilPtr renV_ptr renV_nilSl renV_sl renV_iface renV_agg renV_tuple renV_func gotoS_goto gotoS_normal gotoS_exit gotoS_ret skip_seq sliceE bnd bndHi intOf optOpd keepT_nil keepT_cons keepC_t keepC_f lk_nil lk_cons lkC_t lkC_f has_nil has_cons hasC_t hasC_f rep_nil rep_cons repC_t repC_f put_eq putC_t putC_f mem_nil mem_cons memC_t memC_f idx_nil idx_cons idxC_t idxC_f reach_nil reachP_cons reachQ_t reachQ_f ptrB_dead renB_dead ins_eq
attribute [local simp] n78_1s n78_7s n78_9s n78_10s n78_8s n78_6s n78_12s n78_11s n78_5s n78_4s n78_4g n78_3s n78_14s n78_15s n78_13s n78_2s n78_0s Try.f78 n65_1s n65_3s n65_9s n65_11s n65_12s n65_10s n65_8s n65_15s n65_18s n65_20s n65_21s n65_19s n65_17s n65_23s n65_25s n65_27s n65_30s n65_34s n65_37s n65_38s n65_36s n65_42s n65_43s n65_41s n65_40s n65_44s n65_39s n65_35s n65_33s n65_32s n65_32g n65_31s n65_29s n65_45s n65_28s n65_26s n65_24s n65_22s n65_16s n65_14s n65_13s n65_7s n65_6s n65_6g n65_5s n65_47s n65_48s n65_46s n65_4s n65_2s n65_0s Try.f65
section
variable (b c : Nat) {cs : List Value} {own : Bool} {p : List Int} {h : List Blk} (hb : h[b]? = some (.cells cs 1 true own)) (hc : PoC cs p)
include hb hc
theorem k78 (k : Nat) (hk : k ≤ p.length) (hkc : k ≤ c) (hn : k ≤ 60) : callH LL 78 [sl b 0 k c] h = some ⟨sl b 0 (trmN p k) c, h, [b], []⟩ := by
  have := callN_1 (E := LL) (f := 78) rfl hb noIdB_flat (args := [sl b 0 k c]) (args' := [sl 0 0 k c]) (by simp [renV, dep, optAll, idx, nbeq]) (v := sl 0 0 (trmN p k) c) (v' := sl b 0 (trmN p k) c) (news := []) (go (by decide) (by
    have l := l78 c (own := own) hc k hk hkc hn
    generalize trmN p k = Z at *
    rw [run78 _ _ _ (by simp)]
    simp (maxSteps := 1000000) (disch := first | omega | decide | assumption | simp [scal]) [lenA_sl lk_71, o_sliceS sl_71, want_some q78_7g3, l])) (by intro blk hb; cases hb) (by simp [renV, dep])
  rw [List.append_nil] at this
  exact this
end
def allB (L : List Int) : Bool := L.all fun x => decide (x.natAbs ≤ 4611686018427387904)
theorem allB_mem {L : List Int} (h : allB L = true) {x : Int} (hx : x ∈ L) : -4611686018427387904 ≤ x ∧ x ≤ 4611686018427387904 := by
  have := List.all_eq_true.1 h x hx
  rw [decide_eq_true_eq] at this
  omega
theorem getD_mem {L : List Int} {i : Nat} (h : i < L.length) : L.getD i 0 ∈ L := by
  have : L.getD i 0 = L[i] := by simp [h]
  rw [this]; exact List.getElem_mem h
theorem allB_get {L : List Int} (h : allB L = true) {i : Nat} (hi : i < L.length) : -4611686018427387904 ≤ L.getD i 0 ∧ L.getD i 0 ≤ 4611686018427387904 := allB_mem h (getD_mem hi)
def sz (o : List Int) : Int := (lst o).natAbs
def lead (p o : List Int) : Int := lst p * sg (lst o)
def stp2 (p o : List Int) : List Int := (List.range p.length).map fun i => if p.length - o.length ≤ i then p.getD i 0 * sz o - lead p o * o.getD (i - (p.length - o.length)) 0 else p.getD i 0 * sz o
def stpP (p o : List Int) : List Int := (stp2 p o).take (trmN (stp2 p o) p.length)
def stpQ (p o q : List Int) : List Int := (tms q (sz o)).set (p.length - o.length) ((tms q (sz o)).getD (p.length - o.length) 0 + lead p o)
/-- nothing is too great in a step -/
def stpB (p o q : List Int) : Bool := allB p && allB o && allB (tms p (sz o)) && allB (tms q (sz o)) && decide ((lead p o).natAbs ≤ 4611686018427387904) && allB (stpQ p o q) && allB (tms o (lead p o)) && allB (stp2 p o)
def ovr : Nat → List Int → List Int → List Int → List Int × List Int
  | 0, p, _, q => (q, p)
  | f + 1, p, o, q => bif Nat.blt p.length o.length then (q, p) else ovr f (stpP p o) o (stpQ p o q)
def ovrB : Nat → List Int → List Int → List Int → Bool
  | 0, _, _, _ => true
  | f + 1, p, o, q => bif Nat.blt p.length o.length then true else stpB p o q && ovrB f (stpP p o) o (stpQ p o q)
theorem stp2_len {p o : List Int} : (stp2 p o).length = p.length := by simp [stp2]
theorem sz_sg {o : List Int} : sg (lst o) * lst o = sz o := by
  unfold sg sz
  split
  · omega
  · split <;> omega
theorem stp2_last {p o : List Int} (h0 : 0 < o.length) (h : o.length ≤ p.length) : (stp2 p o).getD (p.length - 1) 0 = 0 := by
  have e : (stp2 p o).getD (p.length - 1) 0 = p.getD (p.length - 1) 0 * sz o - lead p o * o.getD (p.length - 1 - (p.length - o.length)) 0 := by
    unfold stp2
    rw [List.getD_eq_getElem?_getD, List.getElem?_map, List.getElem?_range (by omega)]
    simp only [Option.map_some, Option.getD_some]
    rw [if_pos (by omega)]
  rw [e, show p.length - 1 - (p.length - o.length) = o.length - 1 by omega]
  show lst p * sz o - lst p * sg (lst o) * lst o = 0
  rw [Int.mul_assoc, sz_sg, Int.sub_self]
theorem stpP_lt {p o : List Int} (h0 : 0 < o.length) (h : o.length ≤ p.length) : (stpP p o).length < p.length := by
  unfold stpP
  rw [List.length_take, stp2_len]
  obtain ⟨m, hm⟩ : ∃ m, p.length = m + 1 := ⟨p.length - 1, by omega⟩
  have hl := stp2_last h0 h
  rw [hm, Nat.add_sub_cancel] at hl
  have : trmN (stp2 p o) p.length = trmN (stp2 p o) m := by rw [hm]; simp only [trmN, hl, if_true]
  rw [this]
  have := trmN_le (p := stp2 p o) m
  omega
/-- cells in the middle of a block that are being changed -/
def mxK (f g : Nat → Int) (n k j : Nat) : List Value := (List.range n).map fun i => iv (if k ≤ i ∧ i < k + j then f i else g i)
theorem mxK_len {f g : Nat → Int} {n k j : Nat} : (mxK f g n k j).length = n := by simp [mxK]
theorem mxK_get {f g : Nat → Int} {n k j i : Nat} (h : i < n) (hj : k + j ≤ i) : (mxK f g n k j)[i]? = some (iv (g i)) := by
  simp only [mxK, List.getElem?_map, List.getElem?_range h, Option.map_some]
  rw [if_neg (by omega)]
theorem mxK_set {f g : Nat → Int} {n k j : Nat} (h : j + k < n) : (mxK f g n k j).set (j + k) (iv (f (j + k))) = mxK f g n k (j + 1) := by
  apply List.ext_getElem?
  intro i
  rw [List.getElem?_set, mxK_len]
  by_cases hj : j + k = i
  · subst hj
    rw [if_pos rfl, if_pos h]
    simp only [mxK, List.getElem?_map, List.getElem?_range h, Option.map_some]
    rw [if_pos (by omega)]
  · rw [if_neg hj]
    by_cases hn : i < n
    · simp only [mxK, List.getElem?_map, List.getElem?_range hn, Option.map_some]
      by_cases h2 : k ≤ i ∧ i < k + j
      · rw [if_pos h2, if_pos (by omega)]
      · rw [if_neg h2, if_neg (by omega)]
    · rw [List.getElem?_eq_none (by rw [mxK_len]; omega), List.getElem?_eq_none (by rw [mxK_len]; omega)]
theorem mxK_zero {f g : Nat → Int} {n k : Nat} : mxK f g n k 0 = zm ((List.range n).map g) := by
  simp only [mxK, zm, List.map_map]
  refine List.map_congr_left fun j hj => ?_
  simp only [Function.comp]
  rw [if_neg (by omega)]
section
variable (P0 : Blk) {co : List Value} {own : Bool} {o : List Int} (cc : Nat) (ho : PoC co o) (h60 : o.length ≤ 60)
include ho h60
theorem l65i (k n ql : Nat) (Qv : List Value) (g : Nat → Int) (s l : Int) (hn : k + o.length = n) (hn60 : n ≤ 60) (hb : ∀ j, j < o.length → Sm (l * o.getD j 0)) (hb2 : ∀ j, j < o.length → Sm (g (j + k) - l * o.getD j 0)) : ∀ (q j : Nat), j + q = o.length →
    lpB Try.prog LL ⟨65, 76, 2, none⟩ n65_32 n65_33 ⟨[(7, iv k), (8, iv l), (51, sl 1 0 o.length cc), (52, iv o.length), (53, iv j), (0, sl 2 0 n n), (1, sl 1 0 o.length cc), (4, sl 3 0 ql ql), (6, iv s)],
        [P0, .cells co 1 true own, .cells (mxK (fun i => g i - l * o.getD (i - k) 0) g n k j) 1 true true, .cells Qv 1 true true], []⟩ =
      some (.exit 2, ⟨[(0, sl 2 0 n n), (1, sl 1 0 o.length cc), (4, sl 3 0 ql ql), (6, iv s)], [P0, .cells co 1 true own, .cells (mxK (fun i => g i - l * o.getD (i - k) 0) g n k o.length) 1 true true, .cells Qv 1 true true], []⟩) := by
  intro q
  induction q with
  | zero =>
    intro j hj
    obtain rfl : j = o.length := by omega
    generalize mxK _ _ _ _ _ = X
    rw [lpB_eq]
    simp (maxSteps := 1000000) (disch := first | omega | decide | assumption | simp [scal]) [lenA_sl lk_71, o_indexAddrS es_71, loadA_eq ia_3, sz_3]
  | succ q ih =>
    intro j hj
    have e0 : j < o.length := by omega
    have e1 : (j : Int) < o.length := by omega
    have this := ih (j + 1) (by omega)
    have p1 := ho j e0
    have w1 := (hb j e0).w
    have w2 := (hb2 j e0).w
    have hset := mxK_set (f := fun i => g i - l * o.getD (i - k) 0) (g := g) (n := n) (k := k) (j := j) (by omega)
    simp only [Nat.add_sub_cancel] at hset
    have hl := mxK_len (f := fun i => g i - l * o.getD (i - k) 0) (g := g) (n := n) (k := k) (j := j)
    have p2 := mxK_get (f := fun i => g i - l * o.getD (i - k) 0) (g := g) (n := n) (k := k) (j := j) (i := j + k) (by omega) (by omega)
    rw [← hset] at this
    clear ih hset hb hb2
    simp only [cast1] at this
    have e2 : j + k < n := by omega
    have e3 : (j : Int) + (k : Int) < n := by omega
    have e4 : ((j : Int) + (k : Int)).toNat = j + k := by omega
    have e5 : 0 ≤ (j : Int) + (k : Int) := by omega
    have e6 : IntKind.i64.wrap ((j : Int) + (k : Int)) = (j : Int) + (k : Int) := wrap_i64_id (by omega) (by omega)
    generalize mxK _ _ _ _ j = R at *
    generalize mxK _ _ _ _ _ = X at *
    generalize o.getD j 0 = x at *
    generalize g (j + k) = y at *
    generalize j + k = jk at *
    have p3 : ∀ (h : jk < R.length), R[jk]'h = iv y := fun h => by rw [List.getElem?_eq_getElem h] at p2; exact Option.some.inj p2
    rw [lpB_eq]
    simp (maxSteps := 1000000) (disch := first | omega | decide | assumption | simp [scal]) [lenA_sl lk_71, o_indexAddrS es_71, loadA_eq ia_3, sz_3, e0, e1, e2, e3, e4, e5, e6, p1, p2, p3, w1, w2, hl, this]
end
end Go.Proofs.Ytkmompbfcgjgmaa.nt
namespace Go.Proofs.Ytkmompbfcgjgmaa.nt
open Go.GE
set_option linter.unusedVariables false
set_option linter.unusedSimpArgs false
set_option linter.unusedSectionVars false
set_option maxRecDepth 100000
set_option maxHeartbeats 4000000
attribute [local simp] runOps_nil runOps_cons runOpsF_nil runOpsF_cons fstS_some fstF_some opStep_eq want_none oStep_true oStep_false fin_pure fin_read fin_alloc fin_write storeB wrN cellV addWr o_move o_assign o_pick o_alloc o_box o_load o_store o_nilCheck o_bin o_un o_extract o_callV o_callB o_callI callV_f callV_y callV_fc o_makeFunc partsA Instr.fill builtin_len builtin_max2 bin_add bin_sub bin_mul bin_quo bin_rem bin_lss bin_leq bin_gtr bin_geq bin_eql bin_neq un_neg un_not bin_shr bin_shl wrap_u64_id opd opds optAll putO nbeq nblt constOk isC ops sub cl cr co bodyOf thenS_normal thenS_ret thenS_exit thenS_goto afterN_normal afterN_ret afterN_exit afterN_goto condS_true condS_false blockS_normal blockS_ret blockS_exit blockS_goto headS normS normK_eq fixS_nil fixS_cons fix1 fixV emptyB keepO_nil keepO_cons roundC_normal roundC_exit roundC_ret roundC_goto sweep_eq sweepD rnm pickR pickW rootsB ptrT renT ptrFn renFn ptrB_flat ptrB_non renB_flat renB_non plainS_some drawS_some fpsOk disj unord range' dropTo enumT undef wrap_i64_id Value.cells mkCells ptrTo scal cellsAt rdN endS_ret resultsA Option.bind_some tupV finish reachN dep ptrL_eq ptrL renL_eq renL ptrV_bool ptrV_int ptrV_string ptrV_nilFunc ptrV_nilIface ptrV_nilPtr ptrV_ptr ptrV_nilSl ptrV_sl ptrV_iface ptrV_agg ptrV_tuple ptrV_func renV_bool renV_int renV_string renV_nilFunc renV_nilIface renV_nilPtr renV_ptr renV_nilSl renV_sl renV_iface renV_agg renV_tuple renV_func gotoS_goto gotoS_normal gotoS_exit gotoS_ret skip_seq sliceE bnd bndHi intOf optOpd keepT_nil keepT_cons keepC_t keepC_f lk_nil lk_cons lkC_t lkC_f has_nil has_cons hasC_t hasC_f rep_nil rep_cons repC_t repC_f put_eq putC_t putC_f mem_nil mem_cons memC_t memC_f idx_nil idx_cons idxC_t idxC_f reach_nil reachP_cons reachQ_t reachQ_f ptrB_dead renB_dead ins_eq
attribute [local simp] n65_1s n65_3s n65_9s n65_11s n65_12s n65_10s n65_8s n65_15s n65_18s n65_20s n65_21s n65_19s n65_17s n65_23s n65_25s n65_27s n65_30s n65_34s n65_37s n65_38s n65_36s n65_42s n65_43s n65_41s n65_40s n65_44s n65_39s n65_35s n65_33s n65_32s n65_32g n65_31s n65_29s n65_45s n65_28s n65_26s n65_24s n65_22s n65_16s n65_14s n65_13s n65_7s n65_6s n65_6g n65_5s n65_47s n65_48s n65_46s n65_4s n65_2s n65_0s Try.f65
theorem zm_set {L : List Int} {i : Nat} {x : Int} : zm (L.set i x) = (zm L).set i (iv x) := by simp [zm, List.map_set]
theorem zm_get {L : List Int} {i : Nat} (h : i < L.length) : (zm L)[i]? = some (iv (L.getD i 0)) := by simp [zm, h]
theorem zm_rep {n : Nat} : List.replicate n (iv 0) = zm (List.replicate n 0) := by simp [zm]
theorem nil71_f {b n c : Nat} (h : c ≠ 0) : binA Try.prog .eql 71 true (sl b 0 n c) (.slice none 0 0) = some (.bool false) := by
  have e1 : Try.prog.underlying 71 = some (.slice 3) := by kernel_rfl
  simp [binA, eqA, e1, h]
theorem nil71_t : binA Try.prog .eql 71 true (.slice none 0 0) (.slice none 0 0) = some (.bool true) := by
  have e1 : Try.prog.underlying 71 = some (.slice 3) := by kernel_rfl
  simp [binA, eqA, e1]
/-- what a step wants -/
structure StB (p o q : List Int) : Prop where
  bp : ∀ i, i < p.length → Sm (p.getD i 0 * sz o)
  bq : ∀ i, i < q.length → Sm (q.getD i 0 * sz o)
  bl : Sm (lead p o)
  bk : p.length - o.length < q.length → Sm ((tms q (sz o)).getD (p.length - o.length) 0 + lead p o)
  blo : ∀ j, j < o.length → Sm (lead p o * o.getD j 0)
  bs : o.length ≤ p.length → ∀ j, j < o.length → Sm (p.getD (j + (p.length - o.length)) 0 * sz o - lead p o * o.getD j 0)
theorem tms_get {p : List Int} {m : Int} {i : Nat} (h : i < p.length) : (tms p m).getD i 0 = p.getD i 0 * m := by
  simp [tms, List.getD_eq_getElem?_getD, h]
theorem Sm_of {x : Int} (h : -4611686018427387904 ≤ x ∧ x ≤ 4611686018427387904) : Sm x := by unfold Sm; omega
theorem stp2_get {p o : List Int} {j : Nat} (h : o.length ≤ p.length) (hj : j < o.length) : (stp2 p o).getD (j + (p.length - o.length)) 0 = p.getD (j + (p.length - o.length)) 0 * sz o - lead p o * o.getD j 0 := by
  unfold stp2
  rw [List.getD_eq_getElem?_getD, List.getElem?_map, List.getElem?_range (by omega)]
  simp only [Option.map_some, Option.getD_some]
  rw [if_pos (by omega), Nat.add_sub_cancel]
theorem stB_of {p o q : List Int} (h : stpB p o q = true) : StB p o q := by
  unfold stpB at h
  simp only [Bool.and_eq_true, decide_eq_true_eq] at h
  obtain ⟨⟨⟨⟨⟨⟨⟨h1, h2⟩, h3⟩, h4⟩, h5⟩, h6⟩, h7⟩, h8⟩ := h
  refine ⟨fun i hi => ?_, fun i hi => ?_, ?_, fun hq => ?_, fun j hj => ?_, fun hl j hj => ?_⟩
  · rw [← tms_get hi]; exact Sm_of (allB_get h3 (by rw [tms_len]; exact hi))
  · rw [← tms_get hi]; exact Sm_of (allB_get h4 (by rw [tms_len]; exact hi))
  · exact Sm_of (by omega)
  · have := allB_get h6 (i := p.length - o.length) (by unfold stpQ; rw [List.length_set, tms_len]; exact hq)
    unfold stpQ at this
    rw [List.getD_eq_getElem?_getD, List.getElem?_set_self (by rw [tms_len]; exact hq)] at this
    exact Sm_of this
  · have := allB_get h7 (i := j) (by rw [tms_len]; exact hj)
    rw [tms_get hj, Int.mul_comm] at this
    exact Sm_of this
  · rw [← stp2_get hl hj]
    exact Sm_of (allB_get h8 (by rw [stp2_len]; omega))
theorem mx_stp2 {p o : List Int} (h : o.length ≤ p.length) : mxK (fun i => p.getD i 0 * sz o - lead p o * o.getD (i - (p.length - o.length)) 0) (fun i => p.getD i 0 * sz o) p.length (p.length - o.length) o.length = zm (stp2 p o) := by
  simp only [mxK, zm, stp2, List.map_map]
  refine List.map_congr_left fun i hi => ?_
  rw [List.mem_range] at hi
  simp only [Function.comp]
  by_cases hk : p.length - o.length ≤ i
  · rw [if_pos hk, if_pos (by omega)]
  · rw [if_neg hk, if_neg (by omega)]
theorem mx_tms {p o : List Int} : mxK (fun i => p.getD i 0 * sz o - lead p o * o.getD (i - (p.length - o.length)) 0) (fun i => p.getD i 0 * sz o) p.length (p.length - o.length) 0 = zm (tms p (sz o)) := mxK_zero
section
variable (P0 : Blk) {co : List Value} {own : Bool} {o : List Int} (cc : Nat) (ho : PoC co o) (h60 : o.length ≤ 60) (h0 : 0 < o.length)
include ho h60 h0
/-- a round: what is changed in it -/
theorem l65s (p q : List Int) (hp60 : p.length ≤ 60) (hle : o.length ≤ p.length) (hB : StB p o q) :
    lpB Try.prog LL ⟨65, 76, 2, none⟩ n65_32 n65_33 ⟨[(7, iv (p.length - o.length : Nat)), (8, iv (lead p o)), (51, sl 1 0 o.length cc), (52, iv o.length), (53, iv 0), (0, sl 2 0 p.length p.length), (1, sl 1 0 o.length cc), (4, sl 3 0 q.length q.length), (6, iv (sz o))],
        [P0, .cells co 1 true own, .cells (zm (tms p (sz o))) 1 true true, zB (stpQ p o q)], []⟩ =
      some (.exit 2, ⟨[(0, sl 2 0 p.length p.length), (1, sl 1 0 o.length cc), (4, sl 3 0 q.length q.length), (6, iv (sz o))], [P0, .cells co 1 true own, .cells (zm (stp2 p o)) 1 true true, zB (stpQ p o q)], []⟩) := by
  have := l65i P0 (own := own) cc ho h60 (p.length - o.length) p.length q.length (zm (stpQ p o q)) (fun i => p.getD i 0 * sz o) (sz o) (lead p o) (by omega) hp60 hB.blo (hB.bs hle) o.length 0 (by omega)
  rw [mx_stp2 hle, mx_tms] at this
  exact this
theorem l65r : ∀ (f : Nat) (C q : List Int) (k : Nat), k ≤ C.length → C.length ≤ 60 → k ≤ o.length - 1 + f → k < o.length + q.length → q.length ≤ 60 → ovrB f (C.take k) o q = true →
    ∃ (C' : List Int) (k' : Nat), k' ≤ C'.length ∧ C'.length ≤ 60 ∧ C'.take k' = (ovr f (C.take k) o q).2 ∧ (ovr f (C.take k) o q).1.length = q.length ∧
    lpB Try.prog LL ⟨65, 76, 2, none⟩ n65_6 n65_7 ⟨[(0, sl 2 0 k C.length), (1, sl 1 0 o.length cc), (4, sl 3 0 q.length q.length), (6, iv (sz o))], [P0, .cells co 1 true own, zB C, zB q], []⟩ =
      some (.exit 0, ⟨[(0, sl 2 0 k' C'.length), (4, sl 3 0 q.length q.length)], [P0, .cells co 1 true own, zB C', zB (ovr f (C.take k) o q).1], []⟩) := by
  intro f
  induction f with
  | zero =>
    intro C q k hk h1 h2 h3 h4 hb
    refine ⟨C, k, hk, h1, rfl, rfl, ?_⟩
    have e1 : ¬ (o.length : Int) ≤ k := by omega
    have e2 : ¬ o.length ≤ k := by omega
    simp only [ovr, zB]
    generalize zm C = CC
    generalize zm q = QQ
    rw [lpB_eq]
    simp (maxSteps := 1000000) (disch := first | omega | decide | assumption | simp [scal]) [lenA_sl lk_71, o_indexAddrS es_71, loadA_eq ia_3, sz_3, e1, e2]
  | succ f ih =>
    intro C q k hk h1 h2 h3 h4 hb
    have hpl : (C.take k).length = k := by rw [List.length_take]; omega
    by_cases hlt : k < o.length
    · have eb : Nat.blt (C.take k).length o.length = true := by rw [hpl, nblt]; simp [hlt]
      refine ⟨C, k, hk, h1, by simp only [ovr, eb, cond_true], by simp only [ovr, eb, cond_true], ?_⟩
      simp only [ovr, eb, cond_true, zB]
      have e1 : ¬ (o.length : Int) ≤ k := by omega
      have e2 : ¬ o.length ≤ k := by omega
      generalize zm C = CC
      generalize zm q = QQ
      rw [lpB_eq]
      simp (maxSteps := 1000000) (disch := first | omega | decide | assumption | simp [scal]) [lenA_sl lk_71, o_indexAddrS es_71, loadA_eq ia_3, sz_3, e1, e2]
    · have eb : Nat.blt (C.take k).length o.length = false := by rw [hpl, nblt]; simp; omega
      simp only [ovrB, eb, cond_false, Bool.and_eq_true] at hb
      have hB := stB_of hb.1
      have hle : o.length ≤ (C.take k).length := by omega
      have hdec := stpP_lt h0 hle
      obtain ⟨C', k', r1, r2, r3, r4, r5⟩ := ih (stp2 (C.take k) o) (stpQ (C.take k) o q) (trmN (stp2 (C.take k) o) k) (by rw [stp2_len, hpl]; exact trmN_le _) (by rw [stp2_len, hpl]; omega) (by
        have : (stpP (C.take k) o).length = trmN (stp2 (C.take k) o) k := by unfold stpP; rw [List.length_take, stp2_len, hpl]; have := trmN_le (p := stp2 (C.take k) o) k; omega
        omega) (by
        have := trmN_le (p := stp2 (C.take k) o) k
        have : (stpQ (C.take k) o q).length = q.length := by unfold stpQ; rw [List.length_set, tms_len]
        omega) (by unfold stpQ; rw [List.length_set, tms_len]; exact h4) (by
        have e : (stp2 (C.take k) o).take (trmN (stp2 (C.take k) o) k) = stpP (C.take k) o := by unfold stpP; rw [hpl]
        rw [e]; exact hb.2)
      have e : (stp2 (C.take k) o).take (trmN (stp2 (C.take k) o) k) = stpP (C.take k) o := by unfold stpP; rw [hpl]
      rw [e] at r3 r4 r5
      have ql : (stpQ (C.take k) o q).length = q.length := by unfold stpQ; rw [List.length_set, tms_len]
      rw [ql] at r4 r5
      refine ⟨C', k', r1, r2, by simp only [ovr, eb, cond_false]; exact r3, by simp only [ovr, eb, cond_false]; exact r4, ?_⟩
      simp only [ovr, eb, cond_false]
      generalize (ovr f (stpP (C.take k) o) o (stpQ (C.take k) o q)).1 = Z at *
      rw [stp2_len, hpl] at r5
      have ls := l65s P0 (own := own) cc ho h60 h0 (C.take k) q (by omega) hle hB
      have a67a := k67 2 C.length (p := C.take k) (h := [P0, .cells co 1 true own, zB C, zB q]) rfl (PoC_take PoC_zm) (by omega) (by omega)
      have a67b := k67 1 cc (h := [P0, .cells co 1 true own, zB C, zB q]) rfl ho h0 h60
      have a66a := k66 2 C.length (p := C.take k) (h := [P0, .cells co 1 true own, zB C, zB q]) rfl (PoC_take PoC_zm) (by omega) (sz o) hB.bp
      have a66b := fun X => k66 3 q.length (p := q) (h := [P0, .cells co 1 true own, zB C, zB q, X]) rfl PoC_zm h4 (sz o) hB.bq
      have a78 := k78 2 k (p := stp2 (C.take k) o) (h := [P0, .cells co 1 true own, zB (stp2 (C.take k) o), zB (stpQ (C.take k) o q)]) rfl PoC_zm k (by rw [stp2_len]; omega) (Nat.le_refl _) (by omega)
      have wl := hB.bl.w
      have wq := (hB.bk (by omega)).w
      have hql : (tms q (sz o)).length = q.length := tms_len
      have gq := zm_get (L := tms q (sz o)) (i := k - o.length) (by omega)
      have gz : (zm (tms q (sz o))).length = q.length := by rw [zm_len, tms_len]
      have hst : zm (stpQ (C.take k) o q) = (zm (tms q (sz o))).set (k - o.length) (iv ((tms q (sz o)).getD (k - o.length) 0 + lead (C.take k) o)) := by
        unfold stpQ; rw [hpl, zm_set]
      have ll : lst (C.take k) * sg (lst o) = lead (C.take k) o := rfl
      rw [hpl] at a67a a66a ls wq
      obtain ⟨d, hd⟩ : ∃ d, k - o.length = d := ⟨_, rfl⟩
      rw [hd] at ls wq gq hst
      have e1 : (o.length : Int) ≤ k := by omega
      have e2 : o.length ≤ k := by omega
      have e3 : (k : Int) - (o.length : Int) = d := by omega
      have e4 : IntKind.i64.wrap (d : Int) = d := wrap_i64_id (by omega) (by omega)
      have e5 : d < q.length := by omega
      have e5' : (d : Int) < q.length := by omega
      have gq3 : ∀ (h : d < (zm (tms q (sz o))).length), (zm (tms q (sz o)))[d]'h = iv ((tms q (sz o)).getD d 0) := fun h => by rw [List.getElem?_eq_getElem h] at gq; exact Option.some.inj gq
      clear ih hb r1 r2 r3 r4 hB eb hdec
      simp only [zB, hst] at ls a67a a67b a66a a66b a78 r5 ⊢
      generalize (tms q (sz o)).getD d 0 = qd at *
      generalize zm (tms q (sz o)) = TQ at *
      generalize zm (tms (C.take k) (sz o)) = TP at *
      generalize zm (stp2 (C.take k) o) = S2 at *
      generalize trmN (stp2 (C.take k) o) k = k2 at *
      generalize zm C = CC at *
      generalize zm C' = CC2 at *
      generalize zm Z = ZZ at *
      generalize zm q = QQ at *
      generalize lst (C.take k) = x1 at *
      generalize lst o = x2 at *
      rw [← ll] at wl wq ls r5 a78
      have a63 := fun h => k63 x2 h
      rw [lpB_eq]
      have e6 := nil71_f (b := 3) (n := q.length) (show q.length ≠ 0 by omega)
      simp (maxSteps := 1000000) (disch := first | omega | decide | assumption | simp [scal]) [lenA_sl lk_71, o_indexAddrS es_71, loadA_eq ia_3, sz_3, e1, e2, e3, e4, e5, e5', e6, a67a, a67b, a63, a66a, a66b, wl, wq, gq, gq3, gz, ls, a78, r5]
end
end Go.Proofs.Ytkmompbfcgjgmaa.nt
namespace Go.Proofs.Ytkmompbfcgjgmaa.nt
open Go.GE
set_option linter.unusedVariables false
set_option linter.unusedSimpArgs false
set_option linter.unusedSectionVars false
set_option maxRecDepth 100000
set_option maxHeartbeats 4000000
attribute [local simp] runOps_nil runOps_cons runOpsF_nil runOpsF_cons fstS_some fstF_some opStep_eq want_none oStep_true oStep_false fin_pure fin_read fin_alloc fin_write storeB wrN cellV addWr o_move o_assign o_pick o_alloc o_box o_load o_store o_nilCheck o_bin o_un o_extract o_callV o_callB o_callI callV_f callV_y callV_fc o_makeFunc partsA Instr.fill builtin_len builtin_max2 bin_add bin_sub bin_mul bin_quo bin_rem bin_lss bin_leq bin_gtr bin_geq bin_eql bin_neq un_neg un_not bin_shr bin_shl wrap_u64_id opd opds optAll putO nbeq nblt constOk isC ops sub cl cr co bodyOf thenS_normal thenS_ret thenS_exit thenS_goto afterN_normal afterN_ret afterN_exit afterN_goto condS_true condS_false blockS_normal blockS_ret blockS_exit blockS_goto headS normS normK_eq fixS_nil fixS_cons fix1 fixV emptyB keepO_nil keepO_cons roundC_normal roundC_exit roundC_ret roundC_goto sweep_eq sweepD rnm pickR pickW rootsB ptrT renT ptrFn renFn ptrB_flat ptrB_non renB_flat renB_non plainS_some drawS_some fpsOk disj unord range' dropTo enumT undef wrap_i64_id Value.cells mkCells ptrTo scal cellsAt rdN endS_ret resultsA Option.bind_some tupV finish reachN dep ptrL_eq ptrL renL_eq renL ptrV_bool ptrV_int ptrV_string ptrV_nilFunc ptrV_nilIface ptrV_nilPtr ptrV_ptr ptrV_nilSl ptrV_sl ptrV_iface ptrV_agg ptrV_tuple ptrV_func renV_bool renV_int renV_string renV_nilFunc renV_nilIface renV_nilPtr renV_ptr renV_nilSl renV_sl renV_iface renV_agg renV_tuple renV_func gotoS_goto gotoS_normal gotoS_exit gotoS_ret skip_seq sliceE bnd bndHi intOf optOpd keepT_nil keepT_cons keepC_t keepC_f lk_nil lk_cons lkC_t lkC_f has_nil has_cons hasC_t hasC_f rep_nil rep_cons repC_t repC_f put_eq putC_t putC_f mem_nil mem_cons memC_t memC_f idx_nil idx_cons idxC_t idxC_f reach_nil reachP_cons reachQ_t reachQ_f ptrB_dead renB_dead ins_eq
attribute [local simp] n65_1s n65_3s n65_9s n65_11s n65_12s n65_10s n65_8s n65_15s n65_18s n65_20s n65_21s n65_19s n65_17s n65_23s n65_25s n65_27s n65_30s n65_34s n65_37s n65_38s n65_36s n65_42s n65_43s n65_41s n65_40s n65_44s n65_39s n65_35s n65_33s n65_32s n65_32g n65_31s n65_29s n65_45s n65_28s n65_26s n65_24s n65_22s n65_16s n65_14s n65_13s n65_7s n65_6s n65_6g n65_5s n65_47s n65_48s n65_46s n65_4s n65_2s n65_0s Try.f65
/-- the division, run to its end -/
def ovF (p o : List Int) : List Int × List Int := ovr p.length p o (List.replicate (p.length - o.length + 1) 0)
/-- nothing is too great in it -/
def ovB (p o : List Int) : Bool := ovrB p.length p o (List.replicate (p.length - o.length + 1) 0) && allB (ovF p o).1 && allB (ovF p o).2
theorem allB_lt {L : List Int} (h : allB L = true) : ∀ x, x ∈ L → -9223372036854775808 < x ∧ x < 9223372036854775808 := fun x hx => by
  have := allB_mem h hx
  omega
section
variable (c cc : Nat) {cs co : List Value} {own own2 : Bool} {p o : List Int} (hp : PoC cs p) (ho : PoC co o) (hp60 : p.length ≤ 60) (h0 : 0 < o.length) (hle : o.length ≤ p.length) (hB : ovB p o = true)
include hp ho hp60 h0 hle hB
theorem l65f : ∃ (C' : List Int) (k' : Nat), k' ≤ C'.length ∧ C'.length ≤ 60 ∧ C'.take k' = (ovF p o).2 ∧ (ovF p o).1.length = p.length - o.length + 1 ∧
    lpB Try.prog LL ⟨65, 76, 2, none⟩ n65_6 n65_7 ⟨[(0, sl 0 0 p.length c), (1, sl 1 0 o.length cc), (4, .slice none 0 0), (6, iv (sz o))], [.cells cs 1 true own, .cells co 1 true own2], []⟩ =
      some (.exit 0, ⟨[(0, sl 2 0 k' C'.length), (4, sl 3 0 (p.length - o.length + 1) (p.length - o.length + 1))], [.cells cs 1 true own, .cells co 1 true own2, zB C', zB (ovF p o).1], []⟩) := by
  unfold ovB ovF at hB
  unfold ovF
  obtain ⟨f, hf⟩ : ∃ f, p.length = f + 1 := ⟨p.length - 1, by omega⟩
  obtain ⟨d, hd⟩ : ∃ d, p.length - o.length = d := ⟨_, rfl⟩
  have eb : Nat.blt p.length o.length = false := by rw [nblt]; simp; omega
  rw [hd] at hB ⊢
  rw [show ovrB p.length p o (List.replicate (d + 1) 0) = ovrB (f + 1) p o (List.replicate (d + 1) 0) by rw [hf], show ovr p.length p o (List.replicate (d + 1) 0) = ovr (f + 1) p o (List.replicate (d + 1) 0) by rw [hf]] at hB
  rw [show ovr p.length p o (List.replicate (d + 1) 0) = ovr (f + 1) p o (List.replicate (d + 1) 0) by rw [hf]]
  simp only [ovrB, ovr, eb, cond_false, Bool.and_eq_true] at hB ⊢
  obtain ⟨⟨⟨b1, b2⟩, b3⟩, b4⟩ := hB
  obtain ⟨q, hq⟩ : ∃ q, List.replicate (d + 1) (0 : Int) = q := ⟨_, rfl⟩
  have hql : q.length = d + 1 := by rw [← hq]; simp
  have hqz : List.replicate (d + 1) (iv 0) = zm q := by rw [← hq, zm_rep]
  rw [hq] at b1 b2 b3 b4 ⊢
  have hS := stB_of b1
  have hdec := stpP_lt h0 hle
  have e0 : (stp2 p o).take (trmN (stp2 p o) p.length) = stpP p o := by unfold stpP; rfl
  obtain ⟨C', k', r1, r2, r3, r4, r5⟩ := l65r (.cells cs 1 true own) (own := own2) cc ho (by omega) h0 f (stp2 p o) (stpQ p o q) (trmN (stp2 p o) p.length) (by rw [stp2_len]; exact trmN_le _) (by rw [stp2_len]; omega) (by
      have : (stpP p o).length = trmN (stp2 p o) p.length := by unfold stpP; rw [List.length_take, stp2_len]; have := trmN_le (p := stp2 p o) p.length; omega
      omega) (by
      have := trmN_le (p := stp2 p o) p.length
      have : (stpQ p o q).length = q.length := by unfold stpQ; rw [List.length_set, tms_len]
      omega) (by unfold stpQ; rw [List.length_set, tms_len]; omega) (by rw [e0]; exact b2)
  rw [e0] at r3 r4 r5
  have ql : (stpQ p o q).length = q.length := by unfold stpQ; rw [List.length_set, tms_len]
  rw [ql, hql] at r4 r5
  refine ⟨C', k', r1, r2, r3, r4, ?_⟩
  generalize (ovr f (stpP p o) o (stpQ p o q)).1 = Z at *
  rw [stp2_len] at r5
  have ls := l65s (.cells cs 1 true own) (own := own2) cc ho (by omega) h0 p q (by omega) hle hS
  have a67a := fun R => k67 0 c (p := p) (h := .cells cs 1 true own :: R) rfl hp (by omega) (by omega)
  have a67b := fun R => k67 1 cc (h := .cells cs 1 true own :: .cells co 1 true own2 :: R) rfl ho h0 (by omega)
  have a66a := fun R => k66 0 c (p := p) (h := .cells cs 1 true own :: R) rfl hp (by omega) (sz o) hS.bp
  have a66b := fun X => k66 2 q.length (p := q) (h := [.cells cs 1 true own, .cells co 1 true own2, zB q, X]) rfl PoC_zm (by omega) (sz o) hS.bq
  have a78 := k78 2 p.length (p := stp2 p o) (h := [.cells cs 1 true own, .cells co 1 true own2, zB (stp2 p o), zB (stpQ p o q)]) rfl PoC_zm p.length (by rw [stp2_len]; omega) (Nat.le_refl _) (by omega)
  have wl := hS.bl.w
  have wq := (hS.bk (by omega)).w
  have hql2 : (tms q (sz o)).length = q.length := tms_len
  have gq := zm_get (L := tms q (sz o)) (i := d) (by omega)
  have gz : (zm (tms q (sz o))).length = d + 1 := by rw [zm_len, tms_len, hql]
  have hst : zm (stpQ p o q) = (zm (tms q (sz o))).set d (iv ((tms q (sz o)).getD d 0 + lead p o)) := by
    unfold stpQ; rw [hd, zm_set]
  have ll : lst p * sg (lst o) = lead p o := rfl
  rw [hd] at ls wq
  rw [hql] at ls a66b
  have e1 : (o.length : Int) ≤ p.length := by omega
  have e2 : o.length ≤ p.length := hle
  have e3 : (p.length : Int) - (o.length : Int) = d := by omega
  have e4 : IntKind.i64.wrap (d : Int) = d := wrap_i64_id (by omega) (by omega)
  have e5 : d < d + 1 := by omega
  have e5' : (d : Int) < (d : Int) + 1 := by omega
  have e7 : (0 : Int) ≤ (d : Int) + 1 := by omega
  have e8 : ((d : Int) + 1).toNat = d + 1 := by omega
  have e9 : ((d : Int) + 1) * 8 ≤ 70368744177664 ∧ (d : Int) + 1 ≤ 70368744177664 := by omega
  obtain ⟨e9, e10⟩ := e9
  have gq3 : ∀ (h : d < (zm (tms q (sz o))).length), (zm (tms q (sz o)))[d]'h = iv ((tms q (sz o)).getD d 0) := fun h => by rw [List.getElem?_eq_getElem h] at gq; exact Option.some.inj gq
  clear b1 b2 b3 b4 r1 r2 r3 r4 hS eb hdec hq
  simp only [zB, hst] at ls a67a a67b a66a a66b a78 r5 ⊢
  generalize (tms q (sz o)).getD d 0 = qd at *
  generalize zm (tms q (sz o)) = TQ at *
  generalize zm (tms p (sz o)) = TP at *
  generalize zm (stp2 p o) = S2 at *
  generalize trmN (stp2 p o) p.length = k2 at *
  generalize zm C' = CC2 at *
  generalize zm Z = ZZ at *
  generalize zm q = QQ at *
  generalize lst p = x1 at *
  generalize lst o = x2 at *
  rw [← ll] at wl wq ls r5 a78
  have a63 := fun h => k63 x2 h
  rw [lpB_eq]
  simp (maxSteps := 1000000) (disch := first | omega | decide | assumption | simp [scal]) [lenA_sl lk_71, o_indexAddrS es_71, loadA_eq ia_3, sz_3, e1, e2, e3, e4, e5, e5', e7, e8, e9, e10, nil71_t, mk71, hqz, a67a, a67b, a63, a66a, a66b, wl, wq, gq, gq3, gz, ls, a78, r5]
end
section
variable (b b2 c cc : Nat) {cs co : List Value} {own own2 : Bool} {p o : List Int} {h : List Blk} (hb : h[b]? = some (.cells cs 1 true own)) (hb2 : h[b2]? = some (.cells co 1 true own2)) (hne : b ≠ b2) (hp : PoC cs p) (ho : PoC co o)
include hb hb2 hne hp ho
theorem k65 (hp60 : p.length ≤ 60) (h0 : 0 < o.length) (hle : o.length ≤ p.length) (hB : ovB p o = true) :
    callH LL 65 [sl b 0 p.length c, sl b2 0 o.length cc] h = some ⟨.tuple #[sl h.length 0 (dgP (ovF p o).1) (dgP (ovF p o).1), sl (h.length + 1) 0 (dgP (ovF p o).2) (dgP (ovF p o).2)], h ++ [zB (lea (ovF p o).1), zB (lea (ovF p o).2)], [b, b2], []⟩ := by
  have hne' : ¬ b2 = b := fun e => hne e.symm
  refine callN_2 rfl hb hb2 hne noIdB_flat noIdB_flat (args' := [sl 0 0 p.length c, sl 1 0 o.length cc]) (by simp [renV, dep, optAll, idx, nbeq, hne, hne']) (v := .tuple #[sl 2 0 (dgP (ovF p o).1) (dgP (ovF p o).1), sl 3 0 (dgP (ovF p o).2) (dgP (ovF p o).2)]) (news := [zB (lea (ovF p o).1), zB (lea (ovF p o).2)]) (go (by decide) ?_)
    (by intro blk hb; simp only [List.mem_cons, List.not_mem_nil, or_false] at hb; rcases hb with rfl | rfl <;> exact noIdB_flat) (by simp [renV, dep, optAll])
  obtain ⟨C', k', r1, r2, r3, r4, r5⟩ := l65f c cc (own := own) (own2 := own2) hp ho hp60 h0 hle hB
  have hBB := hB
  unfold ovB at hBB
  simp only [Bool.and_eq_true] at hBB
  obtain ⟨⟨b1, b2'⟩, b3⟩ := hBB
  have hkl : (C'.take k').length = k' := by rw [List.length_take]; omega
  have a71a := fun R => k71 3 (p.length - o.length + 1) (p := (ovF p o).1) (h := [.cells cs 1 true own, .cells co 1 true own2, zB C', zB (ovF p o).1]) rfl PoC_zm (by omega) (allB_lt b2')
  have a71b := fun X => k71 2 C'.length (p := C'.take k') (h := [.cells cs 1 true own, .cells co 1 true own2, zB C', zB (ovF p o).1, X]) rfl (PoC_take PoC_zm) (by omega) (by rw [r3]; exact allB_lt b3)
  rw [hkl, r3] at a71b
  rw [r4] at a71a
  have a67b := fun R => k67 1 cc (h := .cells cs 1 true own :: .cells co 1 true own2 :: R) rfl ho h0 (by omega)
  have ob : allB o = true := by
    obtain ⟨f, hf⟩ : ∃ f, p.length = f + 1 := ⟨p.length - 1, by omega⟩
    have eb : Nat.blt p.length o.length = false := by rw [nblt]; simp; omega
    rw [show ovrB p.length p o (List.replicate (p.length - o.length + 1) 0) = ovrB (f + 1) p o (List.replicate (p.length - o.length + 1) 0) by rw [← hf]] at b1
    simp only [ovrB, eb, cond_false, Bool.and_eq_true] at b1
    have := b1.1
    unfold stpB at this
    simp only [Bool.and_eq_true] at this
    exact this.1.1.1.1.1.1.2
  have hx := allB_get ob (i := o.length - 1) (by omega)
  rw [show o.getD (o.length - 1) 0 = lst o from rfl] at hx
  have hsz : sz o = ((lst o).natAbs : Int) := rfl
  have w1 : IntKind.i64.wrap (-(lst o)) = -(lst o) := wrap_i64_id (by omega) (by omega)
  simp only [zB] at a71a a71b r5 ⊢
  generalize dgP (ovF p o).1 = d1 at *
  generalize dgP (ovF p o).2 = d2 at *
  generalize zm (lea (ovF p o).1) = L1 at *
  generalize zm (lea (ovF p o).2) = L2 at *
  generalize zm (ovF p o).1 = F1 at *
  generalize zm C' = CC at *
  rw [hsz] at r5
  clear hsz r1 r2 r3 r4 hB b1 b2' b3 ob
  generalize lst o = x at *
  rw [run65 _ _ _ (by simp)]
  by_cases h1 : x < -x
  · have e3 : ((x.natAbs : Nat) : Int) = -x := by omega
    rw [e3] at r5
    simp (maxSteps := 1000000) (disch := first | omega | decide | assumption | simp [scal]) [lenA_sl lk_71, o_indexAddrS es_71, loadA_eq ia_3, sz_3, a67b, h1, w1, r5, a71a, a71b]
  · have e3 : ((x.natAbs : Nat) : Int) = x := by omega
    rw [e3] at r5
    simp (maxSteps := 1000000) (disch := first | omega | decide | assumption | simp [scal]) [lenA_sl lk_71, o_indexAddrS es_71, loadA_eq ia_3, sz_3, a67b, h1, w1, r5, a71a, a71b]
end
end Go.Proofs.Ytkmompbfcgjgmaa.nt
namespace Go.Proofs.Ytkmompbfcgjgmaa.nt
open Go.GE
set_option linter.unusedVariables false
set_option linter.unusedSimpArgs false
set_option linter.unusedSectionVars false
set_option maxRecDepth 100000
set_option maxHeartbeats 4000000
attribute [local simp] runOps_nil runOps_cons runOpsF_nil runOpsF_cons fstS_some fstF_some opStep_eq want_none oStep_true oStep_false fin_pure fin_read fin_alloc fin_write storeB wrN cellV addWr o_move o_assign o_pick o_alloc o_box o_load o_store o_nilCheck o_bin o_un o_extract o_callV o_callB o_callI callV_f callV_y callV_fc o_makeFunc partsA Instr.fill builtin_len builtin_max2 bin_add bin_sub bin_mul bin_quo bin_rem bin_lss bin_leq bin_gtr bin_geq bin_eql bin_neq un_neg un_not bin_shr bin_shl wrap_u64_id opd opds optAll putO nbeq nblt constOk isC ops sub cl cr co bodyOf thenS_normal thenS_ret thenS_exit thenS_goto afterN_normal afterN_ret afterN_exit afterN_goto condS_true condS_false blockS_normal blockS_ret blockS_exit blockS_goto headS normS normK_eq fixS_nil fixS_cons fix1 fixV emptyB keepO_nil keepO_cons roundC_normal roundC_exit roundC_ret roundC_goto sweep_eq sweepD rnm pickR pickW rootsB ptrT renT ptrFn renFn ptrB_flat ptrB_non renB_flat renB_non plainS_some drawS_some fpsOk disj unord range' dropTo enumT undef wrap_i64_id Value.cells mkCells ptrTo scal cellsAt rdN endS_ret resultsA Option.bind_some tupV finish reachN dep ptrL_eq ptrL renL_eq renL ptrV_bool ptrV_int ptrV_string ptrV_nilFunc ptrV_nilIface ptrV_nilPtr ptrV_ptr ptrV_nilSl ptrV_sl ptrV_iface ptrV_agg ptrV_tuple ptrV_func renV_bool renV_int renV_string renV_nilFunc renV_nilIface renV_nilPtr renV_ptr renV_nilSl renV_sl renV_iface renV_agg renV_tuple renV_func gotoS_goto gotoS_normal gotoS_exit gotoS_ret skip_seq sliceE bnd bndHi intOf optOpd keepT_nil keepT_cons keepC_t keepC_f lk_nil lk_cons lkC_t lkC_f has_nil has_cons hasC_t hasC_f rep_nil rep_cons repC_t repC_f put_eq putC_t putC_f mem_nil mem_cons memC_t memC_f idx_nil idx_cons idxC_t idxC_f reach_nil reachP_cons reachQ_t reachQ_f ptrB_dead renB_dead ins_eq
attribute [local simp] n59_1s n59_4s n59_7s n59_8s n59_6s n59_9s n59_5s n59_3s n59_11s n59_13s n59_14s n59_12s n59_10s n59_2s n59_0s Try.f59 n41_1s n41_3s n41_5s n41_6s n41_4s n41_2s n41_0s Try.f41
theorem sm_tms {p : List Int} {m : Int} (h : allB (tms p m) = true) : ∀ i, i < p.length → Sm (p.getD i 0 * m) := fun i hi => by
  rw [← tms_get hi]; exact Sm_of (allB_get h (by rw [tms_len]; exact hi))
theorem sm_slp {p : List Int} (h : allB (slp p) = true) : ∀ i, i < p.length - 1 → Sm (p.getD (i + 1) 0 * ((i : Int) + 1)) := fun i hi => by
  have := allB_get h (i := i) (by rw [slp_len]; exact hi)
  have e : (slp p).getD i 0 = p.getD (i + 1) 0 * ((i : Int) + 1) := by simp [slp, List.getD_eq_getElem?_getD, hi]
  rw [e] at this
  exact Sm_of this
/-- the greatest common divisor of polynomials -/
def cmn : Nat → List Int → List Int → List Int
  | 0, p, _ => lea p
  | f + 1, p, o => bif Nat.beq o.length 0 then lea p else cmn f o (lea (ovF p o).2)
def cmnB : Nat → List Int → List Int → Bool
  | 0, _, _ => false
  | f + 1, p, o => bif Nat.beq o.length 0 then allB p else Nat.ble o.length p.length && ovB p o && cmnB f o (lea (ovF p o).2)
theorem k59 : ∀ (f : Nat) (p o : List Int) (b b2 c cc : Nat) (cs co : List Value) (own own2 : Bool) (h : List Blk), h[b]? = some (.cells cs 1 true own) → h[b2]? = some (.cells co 1 true own2) → b ≠ b2 → PoC cs p → PoC co o → p.length ≤ 60 → o.length ≤ 60 → cmnB f p o = true →
    callH LL 59 [sl b 0 p.length c, sl b2 0 o.length cc] h = some ⟨sl h.length 0 (cmn f p o).length (cmn f p o).length, h ++ [zB (cmn f p o)], [b, b2], []⟩ := by
  intro f
  induction f with
  | zero => intro p o b b2 c cc cs co own own2 h _ _ _ _ _ _ _ hB; cases hB
  | succ f ih =>
    intro p o b b2 c cc cs co own own2 h hb hb2 hne hp ho hp60 ho60 hB
    have hne' : ¬ b2 = b := fun e => hne e.symm
    refine callN_2 rfl hb hb2 hne noIdB_flat noIdB_flat (args' := [sl 0 0 p.length c, sl 1 0 o.length cc]) (by simp [renV, dep, optAll, idx, nbeq, hne, hne']) (v := sl 2 0 (cmn (f + 1) p o).length (cmn (f + 1) p o).length) (news := [zB (cmn (f + 1) p o)]) (go (by decide) ?_)
      (by intro blk hb; simp only [List.mem_singleton] at hb; subst hb; exact noIdB_flat) (by simp [renV, dep])
    by_cases h0 : o.length = 0
    · have eb : Nat.beq o.length 0 = true := by rw [h0]; rfl
      simp only [cmn, cmnB, eb, cond_true] at hB ⊢
      have a71 := fun R => k71 0 c (p := p) (h := .cells cs 1 true own :: R) rfl hp hp60 (allB_lt hB)
      rw [lea_len, h0]
      simp only [zB] at a71 ⊢
      generalize zm (lea p) = L at *
      generalize dgP p = k at *
      rw [run59 _ _ _ (by simp)]
      simp (maxSteps := 1000000) (disch := first | omega | decide | assumption | simp [scal]) [lenA_sl lk_71, a71]
    · have eb : Nat.beq o.length 0 = false := by rw [nbeq]; simp [h0]
      simp only [cmn, cmnB, eb, cond_false, Bool.and_eq_true] at hB ⊢
      obtain ⟨⟨hle, hov⟩, hc⟩ := hB
      have hle : o.length ≤ p.length := Nat.le_of_ble_eq_true hle
      have a65 := fun R => k65 0 1 c cc (p := p) (o := o) (h := .cells cs 1 true own :: .cells co 1 true own2 :: R) rfl rfl (by decide) hp ho hp60 (by omega) hle hov
      have hl4 : (lea (ovF p o).2).length ≤ 60 := by
        obtain ⟨C', k', r1, r2, r3, r4, r5⟩ := l65f c cc (own := own) (own2 := own2) hp ho hp60 (by omega) hle hov
        have := dgP_le (p := (ovF p o).2)
        rw [lea_len]
        rw [← r3] at this ⊢
        rw [List.length_take] at this
        omega
      have a59 := ih o (lea (ovF p o).2) 1 3 cc (dgP (ovF p o).2) co (zm (lea (ovF p o).2)) own2 true [.cells cs 1 true own, .cells co 1 true own2, zB (lea (ovF p o).1), zB (lea (ovF p o).2)] rfl rfl (by decide) ho PoC_zm ho60 hl4 hc
      rw [lea_len] at a59
      have h0' : ¬ (o.length : Int) = 0 := by omega
      have a65' := a65 []
      clear ih a65
      simp only [zB] at a59 a65' ⊢
      generalize cmn f o _ = R at *
      generalize zm (lea (ovF p o).1) = L1 at *
      generalize zm (lea (ovF p o).2) = L2 at *
      generalize zm R = L3 at *
      generalize dgP (ovF p o).1 = d1 at *
      generalize dgP (ovF p o).2 = d2 at *
      rw [run59 _ _ _ (by simp)]
      simp (maxSteps := 1000000) (disch := first | omega | decide | assumption | simp [scal]) [lenA_sl lk_71, h0, h0', a65', a59]
/-- the core -/
def corG (p : List Int) : List Int := cmn 5 p (slp p)
def corQ (p : List Int) : List Int := lea (ovF p (corG p)).1
def cor (p : List Int) : List Int := tms (corQ p) (sg (lst (corQ p)))
def corB (p : List Int) : Bool := Nat.ble 2 p.length && Nat.ble p.length 60 && allB p && allB (slp p) && cmnB 5 p (slp p) && Nat.ble 1 (corG p).length && Nat.ble (corG p).length p.length && ovB p (corG p) && Nat.ble 1 (corQ p).length && Nat.ble (corQ p).length 60 && allB (cor p)
section
variable (b c : Nat) {cs : List Value} {own : Bool} {p : List Int} {h : List Blk} (hb : h[b]? = some (.cells cs 1 true own)) (hp : PoC cs p)
include hb hp
theorem k41 (hB : corB p = true) : callH LL 41 [sl b 0 p.length c] h = some ⟨sl h.length 0 (cor p).length (cor p).length, h ++ [zB (cor p)], [b], []⟩ := by
  refine callN_1 rfl hb noIdB_flat (args' := [sl 0 0 p.length c]) (by simp [renV, dep, optAll, idx, nbeq]) (v := sl 1 0 (cor p).length (cor p).length) (news := [zB (cor p)]) (go (by decide) ?_) (by intro blk hb; simp only [List.mem_singleton] at hb; subst hb; exact noIdB_flat) (by simp [renV, dep])
  unfold corB at hB
  simp only [Bool.and_eq_true] at hB
  obtain ⟨⟨⟨⟨⟨⟨⟨⟨⟨⟨c1, c2⟩, c3⟩, c4⟩, c5⟩, c6⟩, c7⟩, c8⟩, c9⟩, c10⟩, c11⟩ := hB
  have c1 := Nat.le_of_ble_eq_true c1
  have c2 := Nat.le_of_ble_eq_true c2
  have c6 := Nat.le_of_ble_eq_true c6
  have c7 := Nat.le_of_ble_eq_true c7
  have c9 := Nat.le_of_ble_eq_true c9
  have c10 := Nat.le_of_ble_eq_true c10
  have a54 := k54 0 c (p := p) (h := [.cells cs 1 true own]) rfl hp (by omega) (by omega) (sm_slp c4)
  have a59 := k59 5 p (slp p) 0 1 c (p.length - 1) cs (zm (slp p)) own true [.cells cs 1 true own, zB (slp p)] rfl rfl (by decide) hp PoC_zm (by omega) (by rw [slp_len]; omega) c5
  rw [slp_len] at a59
  rw [show cmn 5 p (slp p) = corG p from rfl] at a59
  have a65 := k65 0 2 c (corG p).length (p := p) (o := corG p) (h := [.cells cs 1 true own, zB (slp p), zB (corG p)]) rfl rfl (by decide) hp PoC_zm (by omega) (by omega) c7 c8
  rw [show lea (ovF p (corG p)).1 = corQ p from rfl] at a65
  have a67 := k67 3 (corQ p).length (p := corQ p) (h := [.cells cs 1 true own, zB (slp p), zB (corG p), zB (corQ p), zB (lea (ovF p (corG p)).2)]) rfl PoC_zm (by omega) (by omega)
  have a66 := k66 3 (corQ p).length (p := corQ p) (h := [.cells cs 1 true own, zB (slp p), zB (corG p), zB (corQ p), zB (lea (ovF p (corG p)).2)]) rfl PoC_zm (by omega) (sg (lst (corQ p))) (sm_tms c11)
  have a63 := fun h => k63 (lst (corQ p)) h
  have el : (cor p).length = (corQ p).length := tms_len
  have el2 : (corQ p).length = dgP (ovF p (corG p)).1 := lea_len
  rw [show tms (corQ p) (sg (lst (corQ p))) = cor p from rfl] at a66
  rw [el]
  rw [el2] at a66 a67 ⊢
  clear el el2 c1 c2 c3 c4 c5 c6 c7 c8 c9 c10 c11
  simp only [zB] at a54 a59 a65 a67 a66 ⊢
  generalize lst (corQ p) = x at *
  generalize zm (cor p) = L1 at *
  generalize zm (corQ p) = L2 at *
  generalize zm (corG p) = L3 at *
  generalize zm (slp p) = L4 at *
  generalize (corG p).length = gl at *
  generalize zm (lea (ovF p (corG p)).2) = L5 at *
  generalize dgP (ovF p (corG p)).1 = d1 at *
  generalize dgP (ovF p (corG p)).2 = d2 at *
  generalize p.length - 1 = p1 at *
  rw [run41 _ _ _ (by simp)]
  simp (maxSteps := 1000000) (disch := first | omega | decide | assumption | simp [scal]) [a54, a59, a65, a67, a63, a66]
end
end Go.Proofs.Ytkmompbfcgjgmaa.nt
namespace Go.Proofs.Ytkmompbfcgjgmaa.nt
open Go.GE
set_option linter.unusedVariables false
set_option linter.unusedSimpArgs false
set_option linter.unusedSectionVars false
set_option maxRecDepth 100000
set_option maxHeartbeats 4000000
attribute [local simp] runOps_nil runOps_cons runOpsF_nil runOpsF_cons fstS_some fstF_some opStep_eq want_none oStep_true oStep_false fin_pure fin_read fin_alloc fin_write storeB wrN cellV addWr o_move o_assign o_pick o_alloc o_box o_load o_store o_nilCheck o_bin o_un o_extract o_callV o_callB o_callI callV_f callV_y callV_fc o_makeFunc partsA Instr.fill builtin_len builtin_max2 bin_add bin_sub bin_mul bin_quo bin_rem bin_lss bin_leq bin_gtr bin_geq bin_eql bin_neq un_neg un_not bin_shr bin_shl wrap_u64_id opd opds optAll putO nbeq nblt constOk isC ops sub cl cr co bodyOf thenS_normal thenS_ret thenS_exit thenS_goto afterN_normal afterN_ret afterN_exit afterN_goto condS_true condS_false blockS_normal blockS_ret blockS_exit blockS_goto headS normS normK_eq fixS_nil fixS_cons fix1 fixV emptyB keepO_nil keepO_cons roundC_normal roundC_exit roundC_ret roundC_goto sweep_eq sweepD rnm pickR pickW rootsB ptrT renT ptrFn renFn ptrB_flat ptrB_non renB_flat renB_non plainS_some drawS_some fpsOk disj unord range' dropTo enumT undef wrap_i64_id Value.cells mkCells ptrTo scal cellsAt rdN endS_ret resultsA Option.bind_some tupV finish reachN dep ptrL_eq ptrL renL_eq renL ptrV_bool ptrV_int ptrV_string ptrV_nilFunc ptrV_nilIface ptrV_nilPtr ptrV_ptr ptrV_nilSl ptrV_sl ptrV_iface ptrV_agg ptrV_tuple ptrV_func renV_bool renV_int renV_string renV_nilFunc renV_nilIface renV_nilPtr renV_ptr renV_nilSl renV_sl renV_iface renV_agg renV_tuple renV_func gotoS_goto gotoS_normal gotoS_exit gotoS_ret skip_seq sliceE bnd bndHi intOf optOpd keepT_nil keepT_cons keepC_t keepC_f lk_nil lk_cons lkC_t lkC_f has_nil has_cons hasC_t hasC_f rep_nil rep_cons repC_t repC_f put_eq putC_t putC_f mem_nil mem_cons memC_t memC_f idx_nil idx_cons idxC_t idxC_f reach_nil reachP_cons reachQ_t reachQ_f ptrB_dead renB_dead ins_eq
attribute [local simp] n62_1s n62_3s n62_4s n62_2s n62_0s Try.f62 n38_1s n38_3s n38_6s n38_9s n38_12s n38_13s n38_11s n38_10s n38_7s n38_5s n38_15s n38_16s n38_14s n38_4s n38_2s n38_0s Try.f38
abbrev c1 (n : Int) : Blk := .cells [iv n] 1 true true
abbrev bxP (b n c : Nat) : Blk := .cells [sl b 0 n c] 1 false true
abbrev bxR (x y : Int) : Blk := .cells [iv x, iv y] 1 true true
theorem k62 (n c : Nat) {cs : List Value} {own : Bool} (R : List Blk) : callH LL 62 [sl 0 0 n c] (.cells cs 1 true own :: R) = some ⟨.func (.func 77) #[] #[pp (R.length + 1)], .cells cs 1 true own :: (R ++ [bxP 0 n c]), [0], []⟩ := by
  have e : LL.run 62 [sl 0 0 n c] [.cells cs 1 true own] = some ⟨.func (.func 77) #[] #[pp 1], [.cells [sl 0 0 n c] 1 false true], []⟩ := by
    refine go (by decide) ?_
    rw [run62 _ _ _ (by simp)]
    simp (maxSteps := 1000000) (disch := first | omega | decide | assumption | simp [scal])
  refine callH_of (by intro _; first | trivial | rfl) ?_ (by simp)
  unfold callH0
  have hp : ([sl 0 0 n c] : List Value).flatMap (ptrV dep) = [0] := rfl
  rw [hp, reach_one (h := .cells cs 1 true own :: R) rfl rfl (by decide)]
  simp [optAll, renB, e, mergeB, renV_func, renFn, renL, renV_ptr, renL_eq, renV_int, renV_sl, dep, nblt, idx, nbeq]
/-- the value at a fraction, times a power of the denominator: the highest coefficient first -/
def evS (x y : Int) : List Int → Int → Int → Int
  | [], s, _ => s
  | c :: r, s, w => evS x y r (s * x + c * w) (w * y)
def evW (y : Int) : List Int → Int → Int
  | [], w => w
  | _ :: r, w => evW y r (w * y)
def okI (x : Int) : Bool := decide (x.natAbs ≤ 4611686018427387904)
theorem okI_sm {x : Int} (h : okI x = true) : Sm x := by
  unfold okI at h
  rw [decide_eq_true_eq] at h
  unfold Sm; omega
def evB (x y : Int) : List Int → Int → Int → Bool
  | [], _, _ => true
  | c :: r, s, w => okI (s * x) && okI (c * w) && okI (s * x + c * w) && okI (w * y) && evB x y r (s * x + c * w) (w * y)
noncomputable def lp38 (a b d : Nat) : ALoop := ⟨.ready, none, 38, [(6, pp a), (5, pp b), (3, pp d)], 27, #[11, 12], n38_9, n38_10⟩
section
variable (x y : Int)
theorem r38 (i v s w : Int) (h1 : okI (s * x) = true) (h2 : okI (v * w) = true) (h3 : okI (s * x + v * w) = true) (h4 : okI (w * y) = true) :
    LL.rnd 0 [iv i, iv v] [.loop (lp38 1 2 3), c1 w, c1 s, bxR x y] = some ⟨.bool true, [], [(0, .loop (lp38 1 2 3)), (2, c1 (s * x + v * w)), (1, c1 (w * y))]⟩ := by
  have w1 := (okI_sm h1).w
  have w2 := (okI_sm h2).w
  have w3 := (okI_sm h3).w
  have w4 := (okI_sm h4).w
  clear h1 h2 h3 h4
  rw [show LL = L Try.prog (wk.wtab.keep kpT) from rfl, L_rnd_eq]
  have e1 : codeB Try.prog LL ⟨38, 27, 4, some 0⟩ n38_9 ⟨[(12, iv v), (11, iv i), (6, pp 1), (5, pp 2), (3, pp 3)], [.loop (lp38 1 2 3), c1 w, c1 s, bxR x y], []⟩ =
      some (.normal, ⟨[(8, iv v), (12, iv v), (11, iv i), (6, pp 1), (5, pp 2), (3, pp 3)], [.loop (lp38 1 2 3), c1 w, c1 s, bxR x y], []⟩) := by
    simp (maxSteps := 1000000) (disch := first | omega | decide | assumption | simp [scal]) [za_3, sz_3, loadA_eq ia_3, o_fieldAddr fa_24_0 (by decide), o_fieldAddr fa_24_1 (by decide)]
  have e2 : codeB Try.prog LL ⟨38, 27, 4, some 0⟩ n38_10 ⟨[(8, iv v), (12, iv v), (11, iv i), (6, pp 1), (5, pp 2), (3, pp 3)], [.loop { lp38 1 2 3 with state := .busy }, c1 w, c1 s, bxR x y], [0]⟩ =
      some (.normal, ⟨[(8, iv v), (12, iv v), (11, iv i), (6, pp 1), (5, pp 2), (3, pp 3)], [.loop { lp38 1 2 3 with state := .busy }, c1 (w * y), c1 (s * x + v * w), bxR x y], [0, 2, 1]⟩) := by
    simp (maxSteps := 1000000) (disch := first | omega | decide | assumption | simp [scal]) [za_3, sz_3, loadA_eq ia_3, o_fieldAddr fa_24_0 (by decide), o_fieldAddr fa_24_1 (by decide), w1, w2, w3, w4, ins]
  rw [rnd_step (h := [.loop (lp38 1 2 3), c1 w, c1 s, bxR x y]) (l := 0) (args := [iv i, iv v]) (lp := lp38 1 2 3) (l1 := lp38 1 2 3) (l2 := { lp38 1 2 3 with state := .busy }) rfl rfl rfl rfl rfl e1 rfl rfl e2 rfl]
  simp (maxSteps := 1000000) (disch := first | omega | decide | assumption | simp [scal]) [ins, lp38, ptrB, renB]
end
end Go.Proofs.Ytkmompbfcgjgmaa.nt
namespace Go.Proofs.Ytkmompbfcgjgmaa.nt
open Go.GE
set_option linter.unusedVariables false
set_option linter.unusedSimpArgs false
set_option linter.unusedSectionVars false
set_option maxRecDepth 100000
set_option maxHeartbeats 4000000
attribute [local simp] runOps_nil runOps_cons runOpsF_nil runOpsF_cons fstS_some fstF_some opStep_eq want_none oStep_true oStep_false fin_pure fin_read fin_alloc fin_write storeB wrN cellV addWr o_move o_assign o_pick o_alloc o_box o_load o_store o_nilCheck o_bin o_un o_extract o_callV o_callB o_callI callV_f callV_y callV_fc o_makeFunc partsA Instr.fill builtin_len builtin_max2 bin_add bin_sub bin_mul bin_quo bin_rem bin_lss bin_leq bin_gtr bin_geq bin_eql bin_neq un_neg un_not bin_shr bin_shl wrap_u64_id opd opds optAll putO nbeq nblt constOk isC ops sub cl cr co bodyOf thenS_normal thenS_ret thenS_exit thenS_goto afterN_normal afterN_ret afterN_exit afterN_goto condS_true condS_false blockS_normal blockS_ret blockS_exit blockS_goto headS normS normK_eq fixS_nil fixS_cons fix1 fixV emptyB keepO_nil keepO_cons roundC_normal roundC_exit roundC_ret roundC_goto sweep_eq sweepD rnm pickR pickW rootsB ptrT renT ptrFn renFn ptrB_flat ptrB_non renB_flat renB_non plainS_some drawS_some fpsOk disj unord range' dropTo enumT undef wrap_i64_id Value.cells mkCells ptrTo scal cellsAt rdN endS_ret resultsA Option.bind_some tupV finish reachN dep ptrL_eq ptrL renL_eq renL ptrV_bool ptrV_int ptrV_string ptrV_nilFunc ptrV_nilIface ptrV_nilPtr ptrV_ptr ptrV_nilSl ptrV_sl ptrV_iface ptrV_agg ptrV_tuple ptrV_func renV_bool renV_int renV_string renV_nilFunc renV_nilIface renV_nilPtr renV_ptr renV_nilSl renV_sl renV_iface renV_agg renV_tuple renV_func gotoS_goto gotoS_normal gotoS_exit gotoS_ret skip_seq sliceE bnd bndHi intOf optOpd keepT_nil keepT_cons keepC_t keepC_f lk_nil lk_cons lkC_t lkC_f has_nil has_cons hasC_t hasC_f rep_nil rep_cons repC_t repC_f put_eq putC_t putC_f mem_nil mem_cons memC_t memC_f idx_nil idx_cons idxC_t idxC_f reach_nil reachP_cons reachQ_t reachQ_f ptrB_dead renB_dead ins_eq
attribute [local simp] n77_1s n77_6s n77_8s n77_9s n77_7s n77_5s n77_13s n77_15s n77_16s n77_14s n77_12s n77_11s n77_17s n77_10s n77_4s n77_3s n77_3g n77_2s n77_0s Try.f77 n38_1s n38_3s n38_6s n38_9s n38_12s n38_13s n38_11s n38_10s n38_7s n38_5s n38_15s n38_16s n38_14s n38_4s n38_2s n38_0s Try.f38
section
variable (x y : Int)
theorem y38 (i v s w : Int) (rest : List Blk) (h1 : okI (s * x) = true) (h2 : okI (v * w) = true) (h3 : okI (s * x + v * w) = true) (h4 : okI (w * y) = true) :
    yieldH LL 0 [iv i, iv v] (.loop (lp38 1 2 3) :: c1 w :: c1 s :: bxR x y :: rest) = some ⟨.bool true, .loop (lp38 1 2 3) :: c1 (w * y) :: c1 (s * x + v * w) :: bxR x y :: rest, [0, 1, 2, 3], [0, 2, 1]⟩ := by
  have e := r38 x y i v s w h1 h2 h3 h4
  have hm : ∀ q : Nat, 20 < q → reach (.loop (lp38 1 2 3) :: c1 w :: c1 s :: bxR x y :: rest) 0 q [0] [] = [0, 1, 2, 3] := by
    intro q hq
    obtain ⟨q, rfl⟩ : ∃ j, q = j + 20 := ⟨q - 20, by omega⟩
    simp [reach, mem, nblt, nbeq, ptrB, lp38, ptrT, ptrV_ptr, ptrV_sl, ptrV_int, dep]
  unfold yieldH
  have hp : 0 :: ([iv i, iv v] : List Value).flatMap (ptrV dep) = [0] := rfl
  have hr : ∀ g, optAll (renV g dep) [iv i, iv v] = some [iv i, iv v] := fun _ => rfl
  simp only [hp, hm reachN (by decide), hr]
  simp only [lp38] at e ⊢
  simp [optAll, renB, renT, renV_ptr, renV_sl, renV_int, dep, idx, nbeq, e, mergeB, renV_bool, nblt]
theorem take_rev {p : List Int} {k : Nat} (h : k < p.length) : (p.take (k + 1)).reverse = p.getD k 0 :: (p.take k).reverse := by
  rw [List.take_add_one, List.getElem?_eq_getElem h]
  simp [h]
theorem l77 (c : Nat) {cs : List Value} {own : Bool} {p : List Int} (hp : PoC cs p) (h60 : p.length ≤ 60) : ∀ (k : Nat) (s w : Int) (W : List Nat), k ≤ p.length → (W = [] ∨ W = [0, 2, 1]) → evB x y (p.take k).reverse s w = true → ∃ W', (k = 0 → W' = W) ∧ (0 < k → W' = [0, 2, 1]) ∧
    lpB Try.prog LL ⟨77, 19, 6, none⟩ n77_3 n77_4 ⟨[(0, .func (.yield 0) #[] #[]), (1, pp 4), (3, iv ((k : Int) - 1))], [.loop (lp38 1 2 3), c1 w, c1 s, bxR x y, bxP 5 p.length c, .cells cs 1 true own], W⟩ =
      some (.exit 0, ⟨[], [.loop (lp38 1 2 3), c1 (evW y (p.take k).reverse w), c1 (evS x y (p.take k).reverse s w), bxR x y, bxP 5 p.length c, .cells cs 1 true own], W'⟩) := by
  intro k
  induction k with
  | zero =>
    intro s w W hk hW hB
    refine ⟨W, fun _ => rfl, fun h => absurd h (by omega), ?_⟩
    simp only [List.take_zero, List.reverse_nil, evS, evW]
    have e1 : ((0 : Nat) : Int) - 1 = -1 := rfl
    rw [e1, lpB_eq]
    rcases hW with rfl | rfl <;>
    simp (maxSteps := 1000000) (disch := first | omega | decide | assumption | simp [scal]) [loadA_eq ia_71, lenA_sl lk_71, o_indexAddrS es_71, loadA_eq ia_3, lp38, ptrB, renB]
  | succ k ih =>
    intro s w W hk hW hB
    rw [take_rev (show k < p.length by omega)] at hB ⊢
    simp only [evB, evS, evW, Bool.and_eq_true] at hB ⊢
    obtain ⟨⟨⟨⟨h1, h2⟩, h3⟩, h4⟩, h5⟩ := hB
    have a := y38 x y k (p.getD k 0) s w [bxP 5 p.length c, .cells cs 1 true own] h1 h2 h3 h4
    obtain ⟨W', i1, i2, this⟩ := ih (s * x + p.getD k 0 * w) (w * y) [0, 2, 1] (by omega) (.inr rfl) h5
    have hW' : W' = [0, 2, 1] := by
      by_cases h : k = 0
      · exact i1 h
      · exact i2 (by omega)
    subst hW'
    refine ⟨[0, 2, 1], fun h => by omega, fun _ => rfl, ?_⟩
    have p1 := hp k (by omega)
    have e1 : ((k + 1 : Nat) : Int) - 1 = k := by omega
    have e2 : (k : Int) < p.length := by omega
    have e3 : k < p.length := by omega
    have e4 : (0 : Int) ≤ k := by omega
    have e5 : IntKind.i64.wrap ((k : Int) - 1) = (k : Int) - 1 := wrap_i64_id (by omega) (by omega)
    clear h1 h2 h3 h4 h5 i1 i2 ih
    generalize evS x y (p.take k).reverse _ _ = Z1 at *
    generalize evW y (p.take k).reverse _ = Z2 at *
    generalize p.getD k 0 = v at *
    generalize s * x + v * w = s2 at *
    generalize w * y = w2 at *
    rw [e1, lpB_eq]
    simp only [lp38] at a this ⊢
    rcases hW with rfl | rfl <;>
    simp (maxSteps := 1000000) (disch := first | omega | decide | assumption | simp [scal]) [loadA_eq ia_71, lenA_sl lk_71, o_indexAddrS es_71, loadA_eq ia_3, ptrB, renB, e2, e3, e4, e5, p1, a, addWr, ins, this]
theorem c77 (c : Nat) {cs : List Value} {own : Bool} {p : List Int} (hp : PoC cs p) (h60 : p.length ≤ 60) (h0 : 0 < p.length) (s w : Int) (hB : evB x y p.reverse s w = true) :
    LL.run 77 [.func (.yield 0) #[] #[], pp 4] [.loop (lp38 1 2 3), c1 w, c1 s, bxR x y, bxP 5 p.length c, .cells cs 1 true own] =
      some ⟨.tuple #[], [], [(0, .loop (lp38 1 2 3)), (2, c1 (evS x y p.reverse s w)), (1, c1 (evW y p.reverse w))]⟩ := by
  obtain ⟨W', _, i2, this⟩ := l77 x y c (own := own) hp h60 p.length s w [] (Nat.le_refl _) (.inl rfl) (by rw [List.take_length]; exact hB)
  rw [i2 h0, List.take_length] at this
  have e5 : IntKind.i64.wrap ((p.length : Int) - 1) = (p.length : Int) - 1 := wrap_i64_id (by omega) (by omega)
  clear i2 hB
  generalize evS x y p.reverse s w = Z1 at *
  generalize evW y p.reverse w = Z2 at *
  refine go (by decide) ?_
  rw [run77 _ _ _ (by simp)]
  simp only [lp38] at this ⊢
  simp (maxSteps := 1000000) (disch := first | omega | decide | assumption | simp [scal]) [loadA_eq ia_71, lenA_sl lk_71, o_indexAddrS es_71, loadA_eq ia_3, ptrB, renB, e5, this, endS_normal]
theorem h77 (c : Nat) {cs : List Value} {own : Bool} {p : List Int} (hp : PoC cs p) (h60 : p.length ≤ 60) (h0 : 0 < p.length) (s w : Int) (hB : evB x y p.reverse s w = true) :
    callH LL 77 [.func (.yield 5) #[] #[], pp 4] [.cells cs 1 true own, bxR x y, c1 s, c1 w, bxP 0 p.length c, .loop (lp38 3 2 1)] =
      some ⟨.tuple #[], [.cells cs 1 true own, bxR x y, c1 (evS x y p.reverse s w), c1 (evW y p.reverse w), bxP 0 p.length c, .loop (lp38 3 2 1)], [5, 3, 2, 1, 4, 0], [5, 2, 3]⟩ := by
  have e := c77 x y c (own := own) hp h60 h0 s w hB
  have hm : ∀ q : Nat, 20 < q → reach [.cells cs 1 true own, bxR x y, c1 s, c1 w, bxP 0 p.length c, .loop (lp38 3 2 1)] 0 q [5, 4] [] = [5, 3, 2, 1, 4, 0] := by
    intro q hq
    obtain ⟨q, rfl⟩ : ∃ j, q = j + 20 := ⟨q - 20, by omega⟩
    simp [reach_cons, reachC_t, reachC_f, reach_nil, rootsB, GE.mem, nblt, nbeq, ptrB, lp38, ptrT, ptrV_ptr, ptrV_sl, ptrV_int, dep]
  have hpp : ([.func (.yield 5) #[] #[], pp 4] : List Value).flatMap (ptrV dep) = [5, 4] := rfl
  refine callH_of (by intro _; first | trivial | rfl) ?_ (by simp)
  generalize evS x y p.reverse s w = Z1 at *
  generalize evW y p.reverse w = Z2 at *
  unfold callH0
  simp only [hpp, hm reachN (by decide)]
  simp only [lp38] at e ⊢
  simp [optAll, renV_func, renFn, renL, renV_ptr, dep, idx, nbeq, renB, renT, renL_eq, renV_int, renV_sl, e, mergeB, renV_tuple, nblt]
end
/-- the sign of the value at a fraction -/
def sgP (p : List Int) (x y : Int) : Int := sg (evS x y p.reverse 0 1)
section
variable (b c : Nat) {cs : List Value} {own : Bool} {p : List Int} {h : List Blk} (hb : h[b]? = some (.cells cs 1 true own)) (hp : PoC cs p)
include hb hp
theorem k38 (h0 : 0 < p.length) (h60 : p.length ≤ 60) (x y : Int) (hB : evB x y p.reverse 0 1 = true) : callH LL 38 [sl b 0 p.length c, .agg #[iv x, iv y]] h = some ⟨iv (sgP p x y), h, [b], []⟩ := by
  refine callH_1 rfl hb noIdB_flat (args' := [sl 0 0 p.length c, .agg #[iv x, iv y]]) (by simp [renV, dep, optAll, idx, nbeq]) (go (by decide) ?_) fun _ => rfl
  have a62 := fun R => k62 p.length c (cs := cs) (own := own) R
  have a77 := h77 x y c (own := own) hp h60 h0 0 1 hB
  have a63 := fun h => k63 (evS x y p.reverse 0 1) h
  unfold sgP
  generalize evS x y p.reverse 0 1 = Z1 at *
  generalize evW y p.reverse 1 = Z2 at *
  simp only [lp38] at a77
  rw [run38 _ _ _ (by simp)]
  simp (maxSteps := 1000000) (disch := first | omega | decide | assumption | simp [scal]) [za_3, sz_3, loadA_eq ia_3, o_fieldAddr fa_24_0 (by decide), o_fieldAddr fa_24_1 (by decide), a62]
  rw [range_step n38_8e n38_8k rfl]
  simp (maxSteps := 1000000) (disch := first | omega | decide | assumption | simp [scal]) [za_3, sz_3, loadA_eq ia_3, o_fieldAddr fa_24_0 (by decide), o_fieldAddr fa_24_1 (by decide), a77]
  rw [rangeE_ready rfl rfl rfl]
  simp (maxSteps := 1000000) (disch := first | omega | decide | assumption | simp [scal]) [za_3, sz_3, loadA_eq ia_3, o_fieldAddr fa_24_0 (by decide), o_fieldAddr fa_24_1 (by decide), addWr, a63]
end
end Go.Proofs.Ytkmompbfcgjgmaa.nt
namespace Go.Proofs.Ytkmompbfcgjgmaa.nt
open Go.GE
set_option linter.unusedVariables false
set_option linter.unusedSimpArgs false
set_option linter.unusedSectionVars false
set_option maxRecDepth 100000
set_option maxHeartbeats 4000000
attribute [local simp] runOps_nil runOps_cons runOpsF_nil runOpsF_cons fstS_some fstF_some opStep_eq want_none oStep_true oStep_false fin_pure fin_read fin_alloc fin_write storeB wrN cellV addWr o_move o_assign o_pick o_alloc o_box o_load o_store o_nilCheck o_bin o_un o_extract o_callV o_callB o_callI callV_f callV_y callV_fc o_makeFunc partsA Instr.fill builtin_len builtin_max2 bin_add bin_sub bin_mul bin_quo bin_rem bin_lss bin_leq bin_gtr bin_geq bin_eql bin_neq un_neg un_not bin_shr bin_shl wrap_u64_id opd opds optAll putO nbeq nblt constOk isC ops sub cl cr co bodyOf thenS_normal thenS_ret thenS_exit thenS_goto afterN_normal afterN_ret afterN_exit afterN_goto condS_true condS_false blockS_normal blockS_ret blockS_exit blockS_goto headS normS normK_eq fixS_nil fixS_cons fix1 fixV emptyB keepO_nil keepO_cons roundC_normal roundC_exit roundC_ret roundC_goto sweep_eq sweepD rnm pickR pickW rootsB ptrT renT ptrFn renFn ptrB_flat ptrB_non renB_flat renB_non plainS_some drawS_some fpsOk disj unord range' dropTo enumT undef wrap_i64_id Value.cells mkCells ptrTo scal cellsAt rdN endS_ret resultsA Option.bind_some tupV finish reachN dep ptrL_eq ptrL renL_eq renL ptrV_bool ptrV_int ptrV_string ptrV_nilFunc ptrV_nilIface ptrV_nilPtr ptrV_ptr ptrV_nilSl ptrV_sl ptrV_iface ptrV_agg ptrV_tuple ptrV_func renV_bool renV_int renV_string renV_nilFunc renV_nilIface renV_nilPtr renV_ptr renV_nilSl renV_sl renV_iface renV_agg renV_tuple renV_func gotoS_goto gotoS_normal gotoS_exit gotoS_ret skip_seq sliceE bnd bndHi intOf optOpd keepT_nil keepT_cons keepC_t keepC_f lk_nil lk_cons lkC_t lkC_f has_nil has_cons hasC_t hasC_f rep_nil rep_cons repC_t repC_f put_eq putC_t putC_f mem_nil mem_cons memC_t memC_f idx_nil idx_cons idxC_t idxC_f reach_nil reachP_cons reachQ_t reachQ_f ptrB_dead renB_dead ins_eq
attribute [local simp] n48_1s n48_3s n48_5s n48_8s n48_11s n48_15s n48_17s n48_18s n48_16s n48_14s n48_21s n48_23s n48_24s n48_22s n48_20s n48_25s n48_19s n48_13s n48_12s n48_9s n48_7s n48_27s n48_28s n48_26s n48_6s n48_4s n48_2s n48_0s Try.f48
def chN : List Int → Int → Nat → Nat
  | [], _, n => n
  | s :: r, l, n => if s = 0 then chN r l n else chN r s (if l ≠ 0 ∧ s ≠ l then n + 1 else n)
def chL : List Int → Int → Int
  | [], l => l
  | s :: r, l => if s = 0 then chL r l else chL r s
/-- what has been written so far -/
def InvW (l : Int) (n : Nat) (W : List Nat) : Prop := (W = [] ∧ l = 0 ∧ n = 0) ∨ (W = [0] ∧ l = 0 ∧ n = 0) ∨ (W = [0, 2] ∧ n = 0) ∨ W = [0, 2, 1]
noncomputable def lp48 (a b d : Nat) : ALoop := ⟨.ready, none, 48, [(5, pp a), (4, pp b), (3, pp d)], 24, #[8], n48_11, n48_12⟩
theorem r48z (l n : Int) : LL.rnd 0 [iv 0] [.loop (lp48 1 2 3), c1 n, c1 l, c1 0] = some ⟨.bool true, [], [(0, .loop (lp48 1 2 3))]⟩ := by
  rw [show LL = L Try.prog (wk.wtab.keep kpT) from rfl, L_rnd_eq]
  have e1 : codeB Try.prog LL ⟨48, 24, 4, some 0⟩ n48_11 ⟨[(8, iv 0), (5, pp 1), (4, pp 2), (3, pp 3)], [.loop (lp48 1 2 3), c1 n, c1 l, c1 0], []⟩ =
      some (.normal, ⟨[(6, iv 0), (8, iv 0), (5, pp 1), (4, pp 2), (3, pp 3)], [.loop (lp48 1 2 3), c1 n, c1 l, c1 0], []⟩) := by
    simp (maxSteps := 1000000) (disch := first | omega | decide | assumption | simp [scal]) [za_3, sz_3, loadA_eq ia_3, want_some q48_21g3]
  have e2 : codeB Try.prog LL ⟨48, 24, 4, some 0⟩ n48_12 ⟨[(6, iv 0), (8, iv 0), (5, pp 1), (4, pp 2), (3, pp 3)], [.loop { lp48 1 2 3 with state := .busy }, c1 n, c1 l, c1 0], [0]⟩ =
      some (.normal, ⟨[], [.loop { lp48 1 2 3 with state := .busy }, c1 n, c1 l, c1 0], [0]⟩) := by
    simp only [lp48]
    simp (maxSteps := 1000000) (disch := first | omega | decide | assumption | simp [scal]) [za_3, sz_3, loadA_eq ia_3, want_some q48_21g3, ptrB, renB]
  rw [rnd_step (h := [.loop (lp48 1 2 3), c1 n, c1 l, c1 0]) (l := 0) (args := [iv 0]) (lp := lp48 1 2 3) (l1 := lp48 1 2 3) (l2 := { lp48 1 2 3 with state := .busy }) rfl rfl rfl rfl rfl e1 rfl rfl e2 rfl]
  simp (maxSteps := 1000000) (disch := first | omega | decide | assumption | simp [scal]) [ins, lp48, ptrB, renB]
theorem r48a (s l : Int) (n : Nat) (hn : n ≤ 100) (h0 : s ≠ 0) (h1 : l ≠ 0) (h2 : s ≠ l) : LL.rnd 0 [iv s] [.loop (lp48 1 2 3), c1 n, c1 l, c1 0] = some ⟨.bool true, [], [(0, .loop (lp48 1 2 3)), (1, c1 ((n : Int) + 1)), (2, c1 s)]⟩ := by
  rw [show LL = L Try.prog (wk.wtab.keep kpT) from rfl, L_rnd_eq]
  have e1 : codeB Try.prog LL ⟨48, 24, 4, some 0⟩ n48_11 ⟨[(8, iv s), (5, pp 1), (4, pp 2), (3, pp 3)], [.loop (lp48 1 2 3), c1 n, c1 l, c1 0], []⟩ =
      some (.normal, ⟨[(6, iv s), (8, iv s), (5, pp 1), (4, pp 2), (3, pp 3)], [.loop (lp48 1 2 3), c1 n, c1 l, c1 0], []⟩) := by
    simp (maxSteps := 1000000) (disch := first | omega | decide | assumption | simp [scal]) [za_3, sz_3, loadA_eq ia_3, want_some q48_21g3]
  have e2 : codeB Try.prog LL ⟨48, 24, 4, some 0⟩ n48_12 ⟨[(6, iv s), (8, iv s), (5, pp 1), (4, pp 2), (3, pp 3)], [.loop { lp48 1 2 3 with state := .busy }, c1 n, c1 l, c1 0], [0]⟩ =
      some (.normal, ⟨[(6, iv s), (8, iv s), (5, pp 1), (4, pp 2), (3, pp 3)], [.loop { lp48 1 2 3 with state := .busy }, c1 ((n : Int) + 1), c1 s, c1 0], [0, 1, 2]⟩) := by
    simp only [lp48]
    simp (maxSteps := 1000000) (disch := first | omega | decide | assumption | simp [scal]) [za_3, sz_3, loadA_eq ia_3, want_some q48_21g3, ptrB, renB, h0, ins, h1, h2]
  rw [rnd_step (h := [.loop (lp48 1 2 3), c1 n, c1 l, c1 0]) (l := 0) (args := [iv s]) (lp := lp48 1 2 3) (l1 := lp48 1 2 3) (l2 := { lp48 1 2 3 with state := .busy }) rfl rfl rfl rfl rfl e1 rfl rfl e2 rfl]
  simp (maxSteps := 1000000) (disch := first | omega | decide | assumption | simp [scal]) [ins, lp48, ptrB, renB]
theorem r48b (s l : Int) (n : Nat) (hn : n ≤ 100) (h0 : s ≠ 0) (h1 : l = 0) : LL.rnd 0 [iv s] [.loop (lp48 1 2 3), c1 n, c1 l, c1 0] = some ⟨.bool true, [], [(0, .loop (lp48 1 2 3)), (2, c1 s)]⟩ := by
  rw [show LL = L Try.prog (wk.wtab.keep kpT) from rfl, L_rnd_eq]
  have e1 : codeB Try.prog LL ⟨48, 24, 4, some 0⟩ n48_11 ⟨[(8, iv s), (5, pp 1), (4, pp 2), (3, pp 3)], [.loop (lp48 1 2 3), c1 n, c1 l, c1 0], []⟩ =
      some (.normal, ⟨[(6, iv s), (8, iv s), (5, pp 1), (4, pp 2), (3, pp 3)], [.loop (lp48 1 2 3), c1 n, c1 l, c1 0], []⟩) := by
    simp (maxSteps := 1000000) (disch := first | omega | decide | assumption | simp [scal]) [za_3, sz_3, loadA_eq ia_3, want_some q48_21g3]
  have e2 : codeB Try.prog LL ⟨48, 24, 4, some 0⟩ n48_12 ⟨[(6, iv s), (8, iv s), (5, pp 1), (4, pp 2), (3, pp 3)], [.loop { lp48 1 2 3 with state := .busy }, c1 n, c1 l, c1 0], [0]⟩ =
      some (.normal, ⟨[(6, iv s), (8, iv s), (5, pp 1), (4, pp 2), (3, pp 3)], [.loop { lp48 1 2 3 with state := .busy }, c1 n, c1 s, c1 0], [0, 2]⟩) := by
    simp only [lp48]
    simp (maxSteps := 1000000) (disch := first | omega | decide | assumption | simp [scal]) [za_3, sz_3, loadA_eq ia_3, want_some q48_21g3, ptrB, renB, h0, ins, h1]
  rw [rnd_step (h := [.loop (lp48 1 2 3), c1 n, c1 l, c1 0]) (l := 0) (args := [iv s]) (lp := lp48 1 2 3) (l1 := lp48 1 2 3) (l2 := { lp48 1 2 3 with state := .busy }) rfl rfl rfl rfl rfl e1 rfl rfl e2 rfl]
  simp (maxSteps := 1000000) (disch := first | omega | decide | assumption | simp [scal]) [ins, lp48, ptrB, renB]
theorem r48c (s l : Int) (n : Nat) (hn : n ≤ 100) (h0 : s ≠ 0) (h1 : l ≠ 0) (h2 : s = l) : LL.rnd 0 [iv s] [.loop (lp48 1 2 3), c1 n, c1 l, c1 0] = some ⟨.bool true, [], [(0, .loop (lp48 1 2 3)), (2, c1 s)]⟩ := by
  rw [show LL = L Try.prog (wk.wtab.keep kpT) from rfl, L_rnd_eq]
  have e1 : codeB Try.prog LL ⟨48, 24, 4, some 0⟩ n48_11 ⟨[(8, iv s), (5, pp 1), (4, pp 2), (3, pp 3)], [.loop (lp48 1 2 3), c1 n, c1 l, c1 0], []⟩ =
      some (.normal, ⟨[(6, iv s), (8, iv s), (5, pp 1), (4, pp 2), (3, pp 3)], [.loop (lp48 1 2 3), c1 n, c1 l, c1 0], []⟩) := by
    simp (maxSteps := 1000000) (disch := first | omega | decide | assumption | simp [scal]) [za_3, sz_3, loadA_eq ia_3, want_some q48_21g3]
  have e2 : codeB Try.prog LL ⟨48, 24, 4, some 0⟩ n48_12 ⟨[(6, iv s), (8, iv s), (5, pp 1), (4, pp 2), (3, pp 3)], [.loop { lp48 1 2 3 with state := .busy }, c1 n, c1 l, c1 0], [0]⟩ =
      some (.normal, ⟨[(6, iv s), (8, iv s), (5, pp 1), (4, pp 2), (3, pp 3)], [.loop { lp48 1 2 3 with state := .busy }, c1 n, c1 s, c1 0], [0, 2]⟩) := by
    simp only [lp48]
    simp (maxSteps := 1000000) (disch := first | omega | decide | assumption | simp [scal]) [za_3, sz_3, loadA_eq ia_3, want_some q48_21g3, ptrB, renB, h0, ins, h1, h2]
  rw [rnd_step (h := [.loop (lp48 1 2 3), c1 n, c1 l, c1 0]) (l := 0) (args := [iv s]) (lp := lp48 1 2 3) (l1 := lp48 1 2 3) (l2 := { lp48 1 2 3 with state := .busy }) rfl rfl rfl rfl rfl e1 rfl rfl e2 rfl]
  simp (maxSteps := 1000000) (disch := first | omega | decide | assumption | simp [scal]) [ins, lp48, ptrB, renB]
theorem y48z (l n : Int) (rest : List Blk) :
    yieldH LL 0 [iv 0] (.loop (lp48 1 2 3) :: c1 n :: c1 l :: c1 0 :: rest) = some ⟨.bool true, .loop (lp48 1 2 3) :: c1 n :: c1 l :: c1 0 :: rest, [0, 1, 2, 3], [0]⟩ := by
  have e := r48z l n
  have hm : ∀ q : Nat, 20 < q → reach (.loop (lp48 1 2 3) :: c1 n :: c1 l :: c1 0 :: rest) 0 q [0] [] = [0, 1, 2, 3] := by
    intro q hq
    obtain ⟨q, rfl⟩ : ∃ j, q = j + 20 := ⟨q - 20, by omega⟩
    simp [reach, mem, nblt, nbeq, ptrB, lp48, ptrT, ptrV_ptr, ptrV_sl, ptrV_int, dep]
  unfold yieldH
  have hp : 0 :: ([iv 0] : List Value).flatMap (ptrV dep) = [0] := rfl
  have hr : ∀ g, optAll (renV g dep) [iv 0] = some [iv 0] := fun _ => rfl
  simp only [hp, hm reachN (by decide), hr]
  simp only [lp48] at e ⊢
  simp [optAll, renB, renT, renV_ptr, renV_sl, renV_int, dep, idx, nbeq, e, mergeB, renV_bool, nblt]
theorem y48a (s l : Int) (n : Nat) (hn : n ≤ 100) (h0 : s ≠ 0) (h1 : l ≠ 0) (h2 : s ≠ l) (rest : List Blk) :
    yieldH LL 0 [iv s] (.loop (lp48 1 2 3) :: c1 n :: c1 l :: c1 0 :: rest) = some ⟨.bool true, .loop (lp48 1 2 3) :: c1 ((n : Int) + 1) :: c1 s :: c1 0 :: rest, [0, 1, 2, 3], [0, 1, 2]⟩ := by
  have e := r48a s l n hn h0 h1 h2
  have hm : ∀ q : Nat, 20 < q → reach (.loop (lp48 1 2 3) :: c1 n :: c1 l :: c1 0 :: rest) 0 q [0] [] = [0, 1, 2, 3] := by
    intro q hq
    obtain ⟨q, rfl⟩ : ∃ j, q = j + 20 := ⟨q - 20, by omega⟩
    simp [reach, mem, nblt, nbeq, ptrB, lp48, ptrT, ptrV_ptr, ptrV_sl, ptrV_int, dep]
  unfold yieldH
  have hp : 0 :: ([iv s] : List Value).flatMap (ptrV dep) = [0] := rfl
  have hr : ∀ g, optAll (renV g dep) [iv s] = some [iv s] := fun _ => rfl
  simp only [hp, hm reachN (by decide), hr]
  simp only [lp48] at e ⊢
  simp [optAll, renB, renT, renV_ptr, renV_sl, renV_int, dep, idx, nbeq, e, mergeB, renV_bool, nblt]
theorem y48b (s l : Int) (n : Nat) (hn : n ≤ 100) (h0 : s ≠ 0) (h1 : l = 0) (rest : List Blk) :
    yieldH LL 0 [iv s] (.loop (lp48 1 2 3) :: c1 n :: c1 l :: c1 0 :: rest) = some ⟨.bool true, .loop (lp48 1 2 3) :: c1 n :: c1 s :: c1 0 :: rest, [0, 1, 2, 3], [0, 2]⟩ := by
  have e := r48b s l n hn h0 h1
  have hm : ∀ q : Nat, 20 < q → reach (.loop (lp48 1 2 3) :: c1 n :: c1 l :: c1 0 :: rest) 0 q [0] [] = [0, 1, 2, 3] := by
    intro q hq
    obtain ⟨q, rfl⟩ : ∃ j, q = j + 20 := ⟨q - 20, by omega⟩
    simp [reach, mem, nblt, nbeq, ptrB, lp48, ptrT, ptrV_ptr, ptrV_sl, ptrV_int, dep]
  unfold yieldH
  have hp : 0 :: ([iv s] : List Value).flatMap (ptrV dep) = [0] := rfl
  have hr : ∀ g, optAll (renV g dep) [iv s] = some [iv s] := fun _ => rfl
  simp only [hp, hm reachN (by decide), hr]
  simp only [lp48] at e ⊢
  simp [optAll, renB, renT, renV_ptr, renV_sl, renV_int, dep, idx, nbeq, e, mergeB, renV_bool, nblt]
theorem y48c (s l : Int) (n : Nat) (hn : n ≤ 100) (h0 : s ≠ 0) (h1 : l ≠ 0) (h2 : s = l) (rest : List Blk) :
    yieldH LL 0 [iv s] (.loop (lp48 1 2 3) :: c1 n :: c1 l :: c1 0 :: rest) = some ⟨.bool true, .loop (lp48 1 2 3) :: c1 n :: c1 s :: c1 0 :: rest, [0, 1, 2, 3], [0, 2]⟩ := by
  have e := r48c s l n hn h0 h1 h2
  have hm : ∀ q : Nat, 20 < q → reach (.loop (lp48 1 2 3) :: c1 n :: c1 l :: c1 0 :: rest) 0 q [0] [] = [0, 1, 2, 3] := by
    intro q hq
    obtain ⟨q, rfl⟩ : ∃ j, q = j + 20 := ⟨q - 20, by omega⟩
    simp [reach, mem, nblt, nbeq, ptrB, lp48, ptrT, ptrV_ptr, ptrV_sl, ptrV_int, dep]
  unfold yieldH
  have hp : 0 :: ([iv s] : List Value).flatMap (ptrV dep) = [0] := rfl
  have hr : ∀ g, optAll (renV g dep) [iv s] = some [iv s] := fun _ => rfl
  simp only [hp, hm reachN (by decide), hr]
  simp only [lp48] at e ⊢
  simp [optAll, renB, renT, renV_ptr, renV_sl, renV_int, dep, idx, nbeq, e, mergeB, renV_bool, nblt]
end Go.Proofs.Ytkmompbfcgjgmaa.nt
namespace Go.Proofs.Ytkmompbfcgjgmaa.nt
open Go.GE
set_option linter.unusedVariables false
set_option linter.unusedSimpArgs false
set_option linter.unusedSectionVars false
set_option maxRecDepth 100000
set_option maxHeartbeats 4000000
attribute [local simp] runOps_nil runOps_cons runOpsF_nil runOpsF_cons fstS_some fstF_some opStep_eq want_none oStep_true oStep_false fin_pure fin_read fin_alloc fin_write storeB wrN cellV addWr o_move o_assign o_pick o_alloc o_box o_load o_store o_nilCheck o_bin o_un o_extract o_callV o_callB o_callI callV_f callV_y callV_fc o_makeFunc partsA Instr.fill builtin_len builtin_max2 bin_add bin_sub bin_mul bin_quo bin_rem bin_lss bin_leq bin_gtr bin_geq bin_eql bin_neq un_neg un_not bin_shr bin_shl wrap_u64_id opd opds optAll putO nbeq nblt constOk isC ops sub cl cr co bodyOf thenS_normal thenS_ret thenS_exit thenS_goto afterN_normal afterN_ret afterN_exit afterN_goto condS_true condS_false blockS_normal blockS_ret blockS_exit blockS_goto headS normS normK_eq fixS_nil fixS_cons fix1 fixV emptyB keepO_nil keepO_cons roundC_normal roundC_exit roundC_ret roundC_goto sweep_eq sweepD rnm pickR pickW rootsB ptrT renT ptrFn renFn ptrB_flat ptrB_non renB_flat renB_non plainS_some drawS_some fpsOk disj unord range' dropTo enumT undef wrap_i64_id Value.cells mkCells ptrTo scal cellsAt rdN endS_ret resultsA Option.bind_some tupV finish reachN dep ptrL_eq ptrL renL_eq renL ptrV_bool ptrV_int ptrV_string ptrV_nilFunc ptrV_nilIface ptrV_nilPtr ptrV_ptr ptrV_nilSl ptrV_sl ptrV_iface ptrV_agg ptrV_tuple ptrV_func renV_bool renV_int renV_string renV_nilFunc renV_nilIface renV_nilPtr renV_ptr renV_nilSl renV_sl renV_iface renV_agg renV_tuple renV_func gotoS_goto gotoS_normal gotoS_exit gotoS_ret skip_seq sliceE bnd bndHi intOf optOpd keepT_nil keepT_cons keepC_t keepC_f lk_nil lk_cons lkC_t lkC_f has_nil has_cons hasC_t hasC_f rep_nil rep_cons repC_t repC_f put_eq putC_t putC_f mem_nil mem_cons memC_t memC_f idx_nil idx_cons idxC_t idxC_f reach_nil reachP_cons reachQ_t reachQ_f ptrB_dead renB_dead ins_eq
attribute [local simp] n75_1s n75_5s n75_8s n75_9s n75_7s n75_13s n75_15s n75_17s n75_18s n75_16s n75_14s n75_12s n75_11s n75_19s n75_10s n75_6s n75_4s n75_3s n75_3g n75_2s n75_0s Try.f75 n48_1s n48_3s n48_5s n48_8s n48_11s n48_15s n48_17s n48_18s n48_16s n48_14s n48_21s n48_23s n48_24s n48_22s n48_20s n48_25s n48_19s n48_13s n48_12s n48_9s n48_7s n48_27s n48_28s n48_26s n48_6s n48_4s n48_2s n48_0s Try.f48 n49_1s n49_3s n49_4s n49_2s n49_0s Try.f49 n52_1s n52_3s n52_4s n52_2s n52_0s Try.f52
section
variable (x y : Int) (c n1 d1 n2 d2 : Nat) {cs1 cs2 : List Value} {own1 own2 : Bool} (s1 s2 : Int) (ha1 : ∀ (l n : Int), callH LL 38 [sl 6 0 n1 d1, .agg #[iv x, iv y]] [.loop (lp48 1 2 3), c1 n, c1 l, c1 0, bxP 5 2 c, .cells [sl 6 0 n1 d1, sl 7 0 n2 d2] 1 false true, .cells cs1 1 true own1, .cells cs2 1 true own2, .cells [.func (.func 38) #[] #[]] 1 false true, bxR x y] = some ⟨iv s1, [.loop (lp48 1 2 3), c1 n, c1 l, c1 0, bxP 5 2 c, .cells [sl 6 0 n1 d1, sl 7 0 n2 d2] 1 false true, .cells cs1 1 true own1, .cells cs2 1 true own2, .cells [.func (.func 38) #[] #[]] 1 false true, bxR x y], [6], []⟩) (ha2 : ∀ (l n : Int), callH LL 38 [sl 7 0 n2 d2, .agg #[iv x, iv y]] [.loop (lp48 1 2 3), c1 n, c1 l, c1 0, bxP 5 2 c, .cells [sl 6 0 n1 d1, sl 7 0 n2 d2] 1 false true, .cells cs1 1 true own1, .cells cs2 1 true own2, .cells [.func (.func 38) #[] #[]] 1 false true, bxR x y] = some ⟨iv s2, [.loop (lp48 1 2 3), c1 n, c1 l, c1 0, bxP 5 2 c, .cells [sl 6 0 n1 d1, sl 7 0 n2 d2] 1 false true, .cells cs1 1 true own1, .cells cs2 1 true own2, .cells [.func (.func 38) #[] #[]] 1 false true, bxR x y], [7], []⟩)
include ha1 ha2
theorem l75_2_2 (l : Int) (n : Nat) (W : List Nat) (hI : InvW l n W) (hn : n ≤ 2) : ∃ W', InvW (chL [] l) (chN [] l n) W' ∧ ((2 < 2 ∨ W ≠ []) → W' ≠ []) ∧
    lpB Try.prog LL ⟨75, 21, 10, none⟩ n75_3 n75_4 ⟨[(0, .func (.yield 0) #[] #[]), (2, pp 8), (3, pp 9), (7, sl 5 0 2 c), (8, iv 2), (9, iv 2)], [.loop (lp48 1 2 3), c1 ((n : Nat) : Int), c1 l, c1 0, bxP 5 2 c, .cells [sl 6 0 n1 d1, sl 7 0 n2 d2] 1 false true, .cells cs1 1 true own1, .cells cs2 1 true own2, .cells [.func (.func 38) #[] #[]] 1 false true, bxR x y], W⟩ =
      some (.exit 0, ⟨[], [.loop (lp48 1 2 3), c1 ((chN [] l n : Nat) : Int), c1 (chL [] l), c1 0, bxP 5 2 c, .cells [sl 6 0 n1 d1, sl 7 0 n2 d2] 1 false true, .cells cs1 1 true own1, .cells cs2 1 true own2, .cells [.func (.func 38) #[] #[]] 1 false true, bxR x y], W'⟩) := by
  refine ⟨W, hI, fun h => h.elim (fun h => absurd h (by omega)) id, ?_⟩
  simp only [chL, chN]
  rw [lpB_eq]
  simp only [lp48]
  clear ha1 ha2
  rcases hI with ⟨rfl, rfl, rfl⟩ | ⟨rfl, rfl, rfl⟩ | ⟨rfl, rfl⟩ | rfl <;>
  simp (maxSteps := 1000000) (disch := first | omega | decide | assumption | simp [scal]) [loadA_eq ia_76, lenA_sl lk_76, o_indexAddrS es_76, loadA_eq ia_71, loadA_eq ia_86, loadA_eq ia_24, ptrB, renB]
theorem l75_2_1 (l : Int) (n : Nat) (W : List Nat) (hI : InvW l n W) (hn : n ≤ 1) : ∃ W', InvW (chL [s2] l) (chN [s2] l n) W' ∧ ((1 < 2 ∨ W ≠ []) → W' ≠ []) ∧
    lpB Try.prog LL ⟨75, 21, 10, none⟩ n75_3 n75_4 ⟨[(0, .func (.yield 0) #[] #[]), (2, pp 8), (3, pp 9), (7, sl 5 0 2 c), (8, iv 2), (9, iv 1)], [.loop (lp48 1 2 3), c1 ((n : Nat) : Int), c1 l, c1 0, bxP 5 2 c, .cells [sl 6 0 n1 d1, sl 7 0 n2 d2] 1 false true, .cells cs1 1 true own1, .cells cs2 1 true own2, .cells [.func (.func 38) #[] #[]] 1 false true, bxR x y], W⟩ =
      some (.exit 0, ⟨[], [.loop (lp48 1 2 3), c1 ((chN [s2] l n : Nat) : Int), c1 (chL [s2] l), c1 0, bxP 5 2 c, .cells [sl 6 0 n1 d1, sl 7 0 n2 d2] 1 false true, .cells cs1 1 true own1, .cells cs2 1 true own2, .cells [.func (.func 38) #[] #[]] 1 false true, bxR x y], W'⟩) := by
  have ha := ha2
  have f0 := fun l n W (h : InvW l n W) (hn : n ≤ 2) => l75_2_2 x y c n1 d1 n2 d2 s1 s2 ha1 ha2 l n W h hn
  clear ha1 ha2
  generalize hs : s2 = s at *
  rcases hI with ⟨rfl, rfl, rfl⟩ | ⟨rfl, rfl, rfl⟩ | ⟨rfl, rfl⟩ | rfl
  · by_cases h0 : s = 0
    · subst h0
      have q1 : chL (0 :: []) 0 = chL [] 0 := by simp [chL]
      have q2 : chN (0 :: []) 0 0 = chN [] 0 0 := by simp [chN]
      obtain ⟨W', i1, i2, this⟩ := f0 0 0 [0] (.inr (.inl ⟨rfl, rfl, rfl⟩)) (by omega)
      have yy := y48z 0 ((0 : Nat) : Int)
      rw [q1, q2]
      refine ⟨W', i1, fun _ => i2 (.inr (by simp)), ?_⟩
      clear f0 q1 q2 i1 i2
      generalize chL [] _ = Z1 at *
      generalize chN [] _ _ = Z2 at *
      try simp only [cast1, Int.natCast_zero, Int.zero_add] at this
      try simp only [Int.natCast_zero, Int.zero_add] at yy
      try simp only [Int.natCast_zero]
      rw [lpB_eq]
      simp only [lp48] at ha yy this ⊢
      simp (maxSteps := 1000000) (disch := first | omega | decide | assumption | simp [scal]) [loadA_eq ia_76, lenA_sl lk_76, o_indexAddrS es_76, loadA_eq ia_71, loadA_eq ia_86, loadA_eq ia_24, ptrB, renB, ha, yy, addWr, ins, this, Int.natCast_zero]
    · skip
      have q1 : chL (s :: []) 0 = chL [] s := by simp [chL, h0]
      have q2 : chN (s :: []) 0 0 = chN [] s 0 := by simp [chN, h0]
      obtain ⟨W', i1, i2, this⟩ := f0 s 0 [0, 2] (.inr (.inr (.inl ⟨rfl, rfl⟩))) (by omega)
      have yy := y48b s 0 0 (by omega) h0 rfl
      rw [q1, q2]
      refine ⟨W', i1, fun _ => i2 (.inr (by simp)), ?_⟩
      clear f0 q1 q2 i1 i2
      generalize chL [] _ = Z1 at *
      generalize chN [] _ _ = Z2 at *
      try simp only [cast1, Int.natCast_zero, Int.zero_add] at this
      try simp only [Int.natCast_zero, Int.zero_add] at yy
      try simp only [Int.natCast_zero]
      rw [lpB_eq]
      simp only [lp48] at ha yy this ⊢
      simp (maxSteps := 1000000) (disch := first | omega | decide | assumption | simp [scal]) [loadA_eq ia_76, lenA_sl lk_76, o_indexAddrS es_76, loadA_eq ia_71, loadA_eq ia_86, loadA_eq ia_24, ptrB, renB, ha, yy, addWr, ins, this, Int.natCast_zero]
  · by_cases h0 : s = 0
    · subst h0
      have q1 : chL (0 :: []) 0 = chL [] 0 := by simp [chL]
      have q2 : chN (0 :: []) 0 0 = chN [] 0 0 := by simp [chN]
      obtain ⟨W', i1, i2, this⟩ := f0 0 0 [0] (.inr (.inl ⟨rfl, rfl, rfl⟩)) (by omega)
      have yy := y48z 0 ((0 : Nat) : Int)
      rw [q1, q2]
      refine ⟨W', i1, fun _ => i2 (.inr (by simp)), ?_⟩
      clear f0 q1 q2 i1 i2
      generalize chL [] _ = Z1 at *
      generalize chN [] _ _ = Z2 at *
      try simp only [cast1, Int.natCast_zero, Int.zero_add] at this
      try simp only [Int.natCast_zero, Int.zero_add] at yy
      try simp only [Int.natCast_zero]
      rw [lpB_eq]
      simp only [lp48] at ha yy this ⊢
      simp (maxSteps := 1000000) (disch := first | omega | decide | assumption | simp [scal]) [loadA_eq ia_76, lenA_sl lk_76, o_indexAddrS es_76, loadA_eq ia_71, loadA_eq ia_86, loadA_eq ia_24, ptrB, renB, ha, yy, addWr, ins, this, Int.natCast_zero]
    · skip
      have q1 : chL (s :: []) 0 = chL [] s := by simp [chL, h0]
      have q2 : chN (s :: []) 0 0 = chN [] s 0 := by simp [chN, h0]
      obtain ⟨W', i1, i2, this⟩ := f0 s 0 [0, 2] (.inr (.inr (.inl ⟨rfl, rfl⟩))) (by omega)
      have yy := y48b s 0 0 (by omega) h0 rfl
      rw [q1, q2]
      refine ⟨W', i1, fun _ => i2 (.inr (by simp)), ?_⟩
      clear f0 q1 q2 i1 i2
      generalize chL [] _ = Z1 at *
      generalize chN [] _ _ = Z2 at *
      try simp only [cast1, Int.natCast_zero, Int.zero_add] at this
      try simp only [Int.natCast_zero, Int.zero_add] at yy
      try simp only [Int.natCast_zero]
      rw [lpB_eq]
      simp only [lp48] at ha yy this ⊢
      simp (maxSteps := 1000000) (disch := first | omega | decide | assumption | simp [scal]) [loadA_eq ia_76, lenA_sl lk_76, o_indexAddrS es_76, loadA_eq ia_71, loadA_eq ia_86, loadA_eq ia_24, ptrB, renB, ha, yy, addWr, ins, this, Int.natCast_zero]
  · by_cases h0 : s = 0
    · subst h0
      have q1 : chL (0 :: []) l = chL [] l := by simp [chL]
      have q2 : chN (0 :: []) l 0 = chN [] l 0 := by simp [chN]
      obtain ⟨W', i1, i2, this⟩ := f0 l 0 [0, 2] (.inr (.inr (.inl ⟨rfl, rfl⟩))) (by omega)
      have yy := y48z l ((0 : Nat) : Int)
      rw [q1, q2]
      refine ⟨W', i1, fun _ => i2 (.inr (by simp)), ?_⟩
      clear f0 q1 q2 i1 i2
      generalize chL [] _ = Z1 at *
      generalize chN [] _ _ = Z2 at *
      try simp only [cast1, Int.natCast_zero, Int.zero_add] at this
      try simp only [Int.natCast_zero, Int.zero_add] at yy
      try simp only [Int.natCast_zero]
      rw [lpB_eq]
      simp only [lp48] at ha yy this ⊢
      simp (maxSteps := 1000000) (disch := first | omega | decide | assumption | simp [scal]) [loadA_eq ia_76, lenA_sl lk_76, o_indexAddrS es_76, loadA_eq ia_71, loadA_eq ia_86, loadA_eq ia_24, ptrB, renB, ha, yy, addWr, ins, this, Int.natCast_zero]
    · by_cases h1 : l = 0
      · subst h1
        have q1 : chL (s :: []) 0 = chL [] s := by simp [chL, h0]
        have q2 : chN (s :: []) 0 0 = chN [] s 0 := by simp [chN, h0]
        obtain ⟨W', i1, i2, this⟩ := f0 s 0 [0, 2] (.inr (.inr (.inl ⟨rfl, rfl⟩))) (by omega)
        have yy := y48b s 0 0 (by omega) h0 rfl
        rw [q1, q2]
        refine ⟨W', i1, fun _ => i2 (.inr (by simp)), ?_⟩
        clear f0 q1 q2 i1 i2
        generalize chL [] _ = Z1 at *
        generalize chN [] _ _ = Z2 at *
        try simp only [cast1, Int.natCast_zero, Int.zero_add] at this
        try simp only [Int.natCast_zero, Int.zero_add] at yy
        try simp only [Int.natCast_zero]
        rw [lpB_eq]
        simp only [lp48] at ha yy this ⊢
        simp (maxSteps := 1000000) (disch := first | omega | decide | assumption | simp [scal]) [loadA_eq ia_76, lenA_sl lk_76, o_indexAddrS es_76, loadA_eq ia_71, loadA_eq ia_86, loadA_eq ia_24, ptrB, renB, ha, yy, addWr, ins, this, Int.natCast_zero]
      · by_cases h2 : s = l
        · skip
          have q1 : chL (s :: []) l = chL [] s := by simp [chL, h0, h1, h2]
          have q2 : chN (s :: []) l 0 = chN [] s 0 := by simp [chN, h0, h1, h2]
          obtain ⟨W', i1, i2, this⟩ := f0 s 0 [0, 2] (.inr (.inr (.inl ⟨rfl, rfl⟩))) (by omega)
          have yy := y48c s l 0 (by omega) h0 h1 h2
          rw [q1, q2]
          refine ⟨W', i1, fun _ => i2 (.inr (by simp)), ?_⟩
          clear f0 q1 q2 i1 i2
          generalize chL [] _ = Z1 at *
          generalize chN [] _ _ = Z2 at *
          try simp only [cast1, Int.natCast_zero, Int.zero_add] at this
          try simp only [Int.natCast_zero, Int.zero_add] at yy
          try simp only [Int.natCast_zero]
          rw [lpB_eq]
          simp only [lp48] at ha yy this ⊢
          simp (maxSteps := 1000000) (disch := first | omega | decide | assumption | simp [scal]) [loadA_eq ia_76, lenA_sl lk_76, o_indexAddrS es_76, loadA_eq ia_71, loadA_eq ia_86, loadA_eq ia_24, ptrB, renB, ha, yy, addWr, ins, this, Int.natCast_zero]
        · skip
          have q1 : chL (s :: []) l = chL [] s := by simp [chL, h0, h1, h2]
          have q2 : chN (s :: []) l 0 = chN [] s (0 + 1) := by simp [chN, h0, h1, h2]
          obtain ⟨W', i1, i2, this⟩ := f0 s (0 + 1) [0, 2, 1] (.inr (.inr (.inr rfl))) (by omega)
          have yy := y48a s l 0 (by omega) h0 h1 h2
          rw [q1, q2]
          refine ⟨W', i1, fun _ => i2 (.inr (by simp)), ?_⟩
          clear f0 q1 q2 i1 i2
          generalize chL [] _ = Z1 at *
          generalize chN [] _ _ = Z2 at *
          try simp only [cast1, Int.natCast_zero, Int.zero_add] at this
          try simp only [Int.natCast_zero, Int.zero_add] at yy
          try simp only [Int.natCast_zero]
          rw [lpB_eq]
          simp only [lp48] at ha yy this ⊢
          simp (maxSteps := 1000000) (disch := first | omega | decide | assumption | simp [scal]) [loadA_eq ia_76, lenA_sl lk_76, o_indexAddrS es_76, loadA_eq ia_71, loadA_eq ia_86, loadA_eq ia_24, ptrB, renB, ha, yy, addWr, ins, this, Int.natCast_zero]
  · by_cases h0 : s = 0
    · subst h0
      have q1 : chL (0 :: []) l = chL [] l := by simp [chL]
      have q2 : chN (0 :: []) l n = chN [] l n := by simp [chN]
      obtain ⟨W', i1, i2, this⟩ := f0 l n [0, 2, 1] (.inr (.inr (.inr rfl))) (by omega)
      have yy := y48z l ((n : Nat) : Int)
      rw [q1, q2]
      refine ⟨W', i1, fun _ => i2 (.inr (by simp)), ?_⟩
      clear f0 q1 q2 i1 i2
      generalize chL [] _ = Z1 at *
      generalize chN [] _ _ = Z2 at *
      try simp only [cast1, Int.natCast_zero, Int.zero_add] at this
      try simp only [Int.natCast_zero, Int.zero_add] at yy
      try simp only [Int.natCast_zero]
      rw [lpB_eq]
      simp only [lp48] at ha yy this ⊢
      simp (maxSteps := 1000000) (disch := first | omega | decide | assumption | simp [scal]) [loadA_eq ia_76, lenA_sl lk_76, o_indexAddrS es_76, loadA_eq ia_71, loadA_eq ia_86, loadA_eq ia_24, ptrB, renB, ha, yy, addWr, ins, this]
    · by_cases h1 : l = 0
      · subst h1
        have q1 : chL (s :: []) 0 = chL [] s := by simp [chL, h0]
        have q2 : chN (s :: []) 0 n = chN [] s n := by simp [chN, h0]
        obtain ⟨W', i1, i2, this⟩ := f0 s n [0, 2, 1] (.inr (.inr (.inr rfl))) (by omega)
        have yy := y48b s 0 n (by omega) h0 rfl
        rw [q1, q2]
        refine ⟨W', i1, fun _ => i2 (.inr (by simp)), ?_⟩
        clear f0 q1 q2 i1 i2
        generalize chL [] _ = Z1 at *
        generalize chN [] _ _ = Z2 at *
        try simp only [cast1, Int.natCast_zero, Int.zero_add] at this
        try simp only [Int.natCast_zero, Int.zero_add] at yy
        try simp only [Int.natCast_zero]
        rw [lpB_eq]
        simp only [lp48] at ha yy this ⊢
        simp (maxSteps := 1000000) (disch := first | omega | decide | assumption | simp [scal]) [loadA_eq ia_76, lenA_sl lk_76, o_indexAddrS es_76, loadA_eq ia_71, loadA_eq ia_86, loadA_eq ia_24, ptrB, renB, ha, yy, addWr, ins, this]
      · by_cases h2 : s = l
        · skip
          have q1 : chL (s :: []) l = chL [] s := by simp [chL, h0, h1, h2]
          have q2 : chN (s :: []) l n = chN [] s n := by simp [chN, h0, h1, h2]
          obtain ⟨W', i1, i2, this⟩ := f0 s n [0, 2, 1] (.inr (.inr (.inr rfl))) (by omega)
          have yy := y48c s l n (by omega) h0 h1 h2
          rw [q1, q2]
          refine ⟨W', i1, fun _ => i2 (.inr (by simp)), ?_⟩
          clear f0 q1 q2 i1 i2
          generalize chL [] _ = Z1 at *
          generalize chN [] _ _ = Z2 at *
          try simp only [cast1, Int.natCast_zero, Int.zero_add] at this
          try simp only [Int.natCast_zero, Int.zero_add] at yy
          try simp only [Int.natCast_zero]
          rw [lpB_eq]
          simp only [lp48] at ha yy this ⊢
          simp (maxSteps := 1000000) (disch := first | omega | decide | assumption | simp [scal]) [loadA_eq ia_76, lenA_sl lk_76, o_indexAddrS es_76, loadA_eq ia_71, loadA_eq ia_86, loadA_eq ia_24, ptrB, renB, ha, yy, addWr, ins, this]
        · skip
          have q1 : chL (s :: []) l = chL [] s := by simp [chL, h0, h1, h2]
          have q2 : chN (s :: []) l n = chN [] s (n + 1) := by simp [chN, h0, h1, h2]
          obtain ⟨W', i1, i2, this⟩ := f0 s (n + 1) [0, 2, 1] (.inr (.inr (.inr rfl))) (by omega)
          have yy := y48a s l n (by omega) h0 h1 h2
          rw [q1, q2]
          refine ⟨W', i1, fun _ => i2 (.inr (by simp)), ?_⟩
          clear f0 q1 q2 i1 i2
          generalize chL [] _ = Z1 at *
          generalize chN [] _ _ = Z2 at *
          try simp only [cast1, Int.natCast_zero, Int.zero_add] at this
          try simp only [Int.natCast_zero, Int.zero_add] at yy
          try simp only [Int.natCast_zero]
          rw [lpB_eq]
          simp only [lp48] at ha yy this ⊢
          simp (maxSteps := 1000000) (disch := first | omega | decide | assumption | simp [scal]) [loadA_eq ia_76, lenA_sl lk_76, o_indexAddrS es_76, loadA_eq ia_71, loadA_eq ia_86, loadA_eq ia_24, ptrB, renB, ha, yy, addWr, ins, this]
theorem l75_2_0 (l : Int) (n : Nat) (W : List Nat) (hI : InvW l n W) (hn : n ≤ 0) : ∃ W', InvW (chL [s1, s2] l) (chN [s1, s2] l n) W' ∧ ((0 < 2 ∨ W ≠ []) → W' ≠ []) ∧
    lpB Try.prog LL ⟨75, 21, 10, none⟩ n75_3 n75_4 ⟨[(0, .func (.yield 0) #[] #[]), (2, pp 8), (3, pp 9), (7, sl 5 0 2 c), (8, iv 2), (9, iv 0)], [.loop (lp48 1 2 3), c1 ((n : Nat) : Int), c1 l, c1 0, bxP 5 2 c, .cells [sl 6 0 n1 d1, sl 7 0 n2 d2] 1 false true, .cells cs1 1 true own1, .cells cs2 1 true own2, .cells [.func (.func 38) #[] #[]] 1 false true, bxR x y], W⟩ =
      some (.exit 0, ⟨[], [.loop (lp48 1 2 3), c1 ((chN [s1, s2] l n : Nat) : Int), c1 (chL [s1, s2] l), c1 0, bxP 5 2 c, .cells [sl 6 0 n1 d1, sl 7 0 n2 d2] 1 false true, .cells cs1 1 true own1, .cells cs2 1 true own2, .cells [.func (.func 38) #[] #[]] 1 false true, bxR x y], W'⟩) := by
  have ha := ha1
  have f0 := fun l n W (h : InvW l n W) (hn : n ≤ 1) => l75_2_1 x y c n1 d1 n2 d2 s1 s2 ha1 ha2 l n W h hn
  clear ha1 ha2
  generalize hs : s1 = s at *
  rcases hI with ⟨rfl, rfl, rfl⟩ | ⟨rfl, rfl, rfl⟩ | ⟨rfl, rfl⟩ | rfl
  · by_cases h0 : s = 0
    · subst h0
      have q1 : chL (0 :: [s2]) 0 = chL [s2] 0 := by simp [chL]
      have q2 : chN (0 :: [s2]) 0 0 = chN [s2] 0 0 := by simp [chN]
      obtain ⟨W', i1, i2, this⟩ := f0 0 0 [0] (.inr (.inl ⟨rfl, rfl, rfl⟩)) (by omega)
      have yy := y48z 0 ((0 : Nat) : Int)
      rw [q1, q2]
      refine ⟨W', i1, fun _ => i2 (.inr (by simp)), ?_⟩
      clear f0 q1 q2 i1 i2
      generalize chL [s2] _ = Z1 at *
      generalize chN [s2] _ _ = Z2 at *
      try simp only [cast1, Int.natCast_zero, Int.zero_add] at this
      try simp only [Int.natCast_zero, Int.zero_add] at yy
      try simp only [Int.natCast_zero]
      rw [lpB_eq]
      simp only [lp48] at ha yy this ⊢
      simp (maxSteps := 1000000) (disch := first | omega | decide | assumption | simp [scal]) [loadA_eq ia_76, lenA_sl lk_76, o_indexAddrS es_76, loadA_eq ia_71, loadA_eq ia_86, loadA_eq ia_24, ptrB, renB, ha, yy, addWr, ins, this, Int.natCast_zero]
    · skip
      have q1 : chL (s :: [s2]) 0 = chL [s2] s := by simp [chL, h0]
      have q2 : chN (s :: [s2]) 0 0 = chN [s2] s 0 := by simp [chN, h0]
      obtain ⟨W', i1, i2, this⟩ := f0 s 0 [0, 2] (.inr (.inr (.inl ⟨rfl, rfl⟩))) (by omega)
      have yy := y48b s 0 0 (by omega) h0 rfl
      rw [q1, q2]
      refine ⟨W', i1, fun _ => i2 (.inr (by simp)), ?_⟩
      clear f0 q1 q2 i1 i2
      generalize chL [s2] _ = Z1 at *
      generalize chN [s2] _ _ = Z2 at *
      try simp only [cast1, Int.natCast_zero, Int.zero_add] at this
      try simp only [Int.natCast_zero, Int.zero_add] at yy
      try simp only [Int.natCast_zero]
      rw [lpB_eq]
      simp only [lp48] at ha yy this ⊢
      simp (maxSteps := 1000000) (disch := first | omega | decide | assumption | simp [scal]) [loadA_eq ia_76, lenA_sl lk_76, o_indexAddrS es_76, loadA_eq ia_71, loadA_eq ia_86, loadA_eq ia_24, ptrB, renB, ha, yy, addWr, ins, this, Int.natCast_zero]
  · by_cases h0 : s = 0
    · subst h0
      have q1 : chL (0 :: [s2]) 0 = chL [s2] 0 := by simp [chL]
      have q2 : chN (0 :: [s2]) 0 0 = chN [s2] 0 0 := by simp [chN]
      obtain ⟨W', i1, i2, this⟩ := f0 0 0 [0] (.inr (.inl ⟨rfl, rfl, rfl⟩)) (by omega)
      have yy := y48z 0 ((0 : Nat) : Int)
      rw [q1, q2]
      refine ⟨W', i1, fun _ => i2 (.inr (by simp)), ?_⟩
      clear f0 q1 q2 i1 i2
      generalize chL [s2] _ = Z1 at *
      generalize chN [s2] _ _ = Z2 at *
      try simp only [cast1, Int.natCast_zero, Int.zero_add] at this
      try simp only [Int.natCast_zero, Int.zero_add] at yy
      try simp only [Int.natCast_zero]
      rw [lpB_eq]
      simp only [lp48] at ha yy this ⊢
      simp (maxSteps := 1000000) (disch := first | omega | decide | assumption | simp [scal]) [loadA_eq ia_76, lenA_sl lk_76, o_indexAddrS es_76, loadA_eq ia_71, loadA_eq ia_86, loadA_eq ia_24, ptrB, renB, ha, yy, addWr, ins, this, Int.natCast_zero]
    · skip
      have q1 : chL (s :: [s2]) 0 = chL [s2] s := by simp [chL, h0]
      have q2 : chN (s :: [s2]) 0 0 = chN [s2] s 0 := by simp [chN, h0]
      obtain ⟨W', i1, i2, this⟩ := f0 s 0 [0, 2] (.inr (.inr (.inl ⟨rfl, rfl⟩))) (by omega)
      have yy := y48b s 0 0 (by omega) h0 rfl
      rw [q1, q2]
      refine ⟨W', i1, fun _ => i2 (.inr (by simp)), ?_⟩
      clear f0 q1 q2 i1 i2
      generalize chL [s2] _ = Z1 at *
      generalize chN [s2] _ _ = Z2 at *
      try simp only [cast1, Int.natCast_zero, Int.zero_add] at this
      try simp only [Int.natCast_zero, Int.zero_add] at yy
      try simp only [Int.natCast_zero]
      rw [lpB_eq]
      simp only [lp48] at ha yy this ⊢
      simp (maxSteps := 1000000) (disch := first | omega | decide | assumption | simp [scal]) [loadA_eq ia_76, lenA_sl lk_76, o_indexAddrS es_76, loadA_eq ia_71, loadA_eq ia_86, loadA_eq ia_24, ptrB, renB, ha, yy, addWr, ins, this, Int.natCast_zero]
  · by_cases h0 : s = 0
    · subst h0
      have q1 : chL (0 :: [s2]) l = chL [s2] l := by simp [chL]
      have q2 : chN (0 :: [s2]) l 0 = chN [s2] l 0 := by simp [chN]
      obtain ⟨W', i1, i2, this⟩ := f0 l 0 [0, 2] (.inr (.inr (.inl ⟨rfl, rfl⟩))) (by omega)
      have yy := y48z l ((0 : Nat) : Int)
      rw [q1, q2]
      refine ⟨W', i1, fun _ => i2 (.inr (by simp)), ?_⟩
      clear f0 q1 q2 i1 i2
      generalize chL [s2] _ = Z1 at *
      generalize chN [s2] _ _ = Z2 at *
      try simp only [cast1, Int.natCast_zero, Int.zero_add] at this
      try simp only [Int.natCast_zero, Int.zero_add] at yy
      try simp only [Int.natCast_zero]
      rw [lpB_eq]
      simp only [lp48] at ha yy this ⊢
      simp (maxSteps := 1000000) (disch := first | omega | decide | assumption | simp [scal]) [loadA_eq ia_76, lenA_sl lk_76, o_indexAddrS es_76, loadA_eq ia_71, loadA_eq ia_86, loadA_eq ia_24, ptrB, renB, ha, yy, addWr, ins, this, Int.natCast_zero]
    · by_cases h1 : l = 0
      · subst h1
        have q1 : chL (s :: [s2]) 0 = chL [s2] s := by simp [chL, h0]
        have q2 : chN (s :: [s2]) 0 0 = chN [s2] s 0 := by simp [chN, h0]
        obtain ⟨W', i1, i2, this⟩ := f0 s 0 [0, 2] (.inr (.inr (.inl ⟨rfl, rfl⟩))) (by omega)
        have yy := y48b s 0 0 (by omega) h0 rfl
        rw [q1, q2]
        refine ⟨W', i1, fun _ => i2 (.inr (by simp)), ?_⟩
        clear f0 q1 q2 i1 i2
        generalize chL [s2] _ = Z1 at *
        generalize chN [s2] _ _ = Z2 at *
        try simp only [cast1, Int.natCast_zero, Int.zero_add] at this
        try simp only [Int.natCast_zero, Int.zero_add] at yy
        try simp only [Int.natCast_zero]
        rw [lpB_eq]
        simp only [lp48] at ha yy this ⊢
        simp (maxSteps := 1000000) (disch := first | omega | decide | assumption | simp [scal]) [loadA_eq ia_76, lenA_sl lk_76, o_indexAddrS es_76, loadA_eq ia_71, loadA_eq ia_86, loadA_eq ia_24, ptrB, renB, ha, yy, addWr, ins, this, Int.natCast_zero]
      · by_cases h2 : s = l
        · skip
          have q1 : chL (s :: [s2]) l = chL [s2] s := by simp [chL, h0, h1, h2]
          have q2 : chN (s :: [s2]) l 0 = chN [s2] s 0 := by simp [chN, h0, h1, h2]
          obtain ⟨W', i1, i2, this⟩ := f0 s 0 [0, 2] (.inr (.inr (.inl ⟨rfl, rfl⟩))) (by omega)
          have yy := y48c s l 0 (by omega) h0 h1 h2
          rw [q1, q2]
          refine ⟨W', i1, fun _ => i2 (.inr (by simp)), ?_⟩
          clear f0 q1 q2 i1 i2
          generalize chL [s2] _ = Z1 at *
          generalize chN [s2] _ _ = Z2 at *
          try simp only [cast1, Int.natCast_zero, Int.zero_add] at this
          try simp only [Int.natCast_zero, Int.zero_add] at yy
          try simp only [Int.natCast_zero]
          rw [lpB_eq]
          simp only [lp48] at ha yy this ⊢
          simp (maxSteps := 1000000) (disch := first | omega | decide | assumption | simp [scal]) [loadA_eq ia_76, lenA_sl lk_76, o_indexAddrS es_76, loadA_eq ia_71, loadA_eq ia_86, loadA_eq ia_24, ptrB, renB, ha, yy, addWr, ins, this, Int.natCast_zero]
        · skip
          have q1 : chL (s :: [s2]) l = chL [s2] s := by simp [chL, h0, h1, h2]
          have q2 : chN (s :: [s2]) l 0 = chN [s2] s (0 + 1) := by simp [chN, h0, h1, h2]
          obtain ⟨W', i1, i2, this⟩ := f0 s (0 + 1) [0, 2, 1] (.inr (.inr (.inr rfl))) (by omega)
          have yy := y48a s l 0 (by omega) h0 h1 h2
          rw [q1, q2]
          refine ⟨W', i1, fun _ => i2 (.inr (by simp)), ?_⟩
          clear f0 q1 q2 i1 i2
          generalize chL [s2] _ = Z1 at *
          generalize chN [s2] _ _ = Z2 at *
          try simp only [cast1, Int.natCast_zero, Int.zero_add] at this
          try simp only [Int.natCast_zero, Int.zero_add] at yy
          try simp only [Int.natCast_zero]
          rw [lpB_eq]
          simp only [lp48] at ha yy this ⊢
          simp (maxSteps := 1000000) (disch := first | omega | decide | assumption | simp [scal]) [loadA_eq ia_76, lenA_sl lk_76, o_indexAddrS es_76, loadA_eq ia_71, loadA_eq ia_86, loadA_eq ia_24, ptrB, renB, ha, yy, addWr, ins, this, Int.natCast_zero]
  · by_cases h0 : s = 0
    · subst h0
      have q1 : chL (0 :: [s2]) l = chL [s2] l := by simp [chL]
      have q2 : chN (0 :: [s2]) l n = chN [s2] l n := by simp [chN]
      obtain ⟨W', i1, i2, this⟩ := f0 l n [0, 2, 1] (.inr (.inr (.inr rfl))) (by omega)
      have yy := y48z l ((n : Nat) : Int)
      rw [q1, q2]
      refine ⟨W', i1, fun _ => i2 (.inr (by simp)), ?_⟩
      clear f0 q1 q2 i1 i2
      generalize chL [s2] _ = Z1 at *
      generalize chN [s2] _ _ = Z2 at *
      try simp only [cast1, Int.natCast_zero, Int.zero_add] at this
      try simp only [Int.natCast_zero, Int.zero_add] at yy
      try simp only [Int.natCast_zero]
      rw [lpB_eq]
      simp only [lp48] at ha yy this ⊢
      simp (maxSteps := 1000000) (disch := first | omega | decide | assumption | simp [scal]) [loadA_eq ia_76, lenA_sl lk_76, o_indexAddrS es_76, loadA_eq ia_71, loadA_eq ia_86, loadA_eq ia_24, ptrB, renB, ha, yy, addWr, ins, this]
    · by_cases h1 : l = 0
      · subst h1
        have q1 : chL (s :: [s2]) 0 = chL [s2] s := by simp [chL, h0]
        have q2 : chN (s :: [s2]) 0 n = chN [s2] s n := by simp [chN, h0]
        obtain ⟨W', i1, i2, this⟩ := f0 s n [0, 2, 1] (.inr (.inr (.inr rfl))) (by omega)
        have yy := y48b s 0 n (by omega) h0 rfl
        rw [q1, q2]
        refine ⟨W', i1, fun _ => i2 (.inr (by simp)), ?_⟩
        clear f0 q1 q2 i1 i2
        generalize chL [s2] _ = Z1 at *
        generalize chN [s2] _ _ = Z2 at *
        try simp only [cast1, Int.natCast_zero, Int.zero_add] at this
        try simp only [Int.natCast_zero, Int.zero_add] at yy
        try simp only [Int.natCast_zero]
        rw [lpB_eq]
        simp only [lp48] at ha yy this ⊢
        simp (maxSteps := 1000000) (disch := first | omega | decide | assumption | simp [scal]) [loadA_eq ia_76, lenA_sl lk_76, o_indexAddrS es_76, loadA_eq ia_71, loadA_eq ia_86, loadA_eq ia_24, ptrB, renB, ha, yy, addWr, ins, this]
      · by_cases h2 : s = l
        · skip
          have q1 : chL (s :: [s2]) l = chL [s2] s := by simp [chL, h0, h1, h2]
          have q2 : chN (s :: [s2]) l n = chN [s2] s n := by simp [chN, h0, h1, h2]
          obtain ⟨W', i1, i2, this⟩ := f0 s n [0, 2, 1] (.inr (.inr (.inr rfl))) (by omega)
          have yy := y48c s l n (by omega) h0 h1 h2
          rw [q1, q2]
          refine ⟨W', i1, fun _ => i2 (.inr (by simp)), ?_⟩
          clear f0 q1 q2 i1 i2
          generalize chL [s2] _ = Z1 at *
          generalize chN [s2] _ _ = Z2 at *
          try simp only [cast1, Int.natCast_zero, Int.zero_add] at this
          try simp only [Int.natCast_zero, Int.zero_add] at yy
          try simp only [Int.natCast_zero]
          rw [lpB_eq]
          simp only [lp48] at ha yy this ⊢
          simp (maxSteps := 1000000) (disch := first | omega | decide | assumption | simp [scal]) [loadA_eq ia_76, lenA_sl lk_76, o_indexAddrS es_76, loadA_eq ia_71, loadA_eq ia_86, loadA_eq ia_24, ptrB, renB, ha, yy, addWr, ins, this]
        · skip
          have q1 : chL (s :: [s2]) l = chL [s2] s := by simp [chL, h0, h1, h2]
          have q2 : chN (s :: [s2]) l n = chN [s2] s (n + 1) := by simp [chN, h0, h1, h2]
          obtain ⟨W', i1, i2, this⟩ := f0 s (n + 1) [0, 2, 1] (.inr (.inr (.inr rfl))) (by omega)
          have yy := y48a s l n (by omega) h0 h1 h2
          rw [q1, q2]
          refine ⟨W', i1, fun _ => i2 (.inr (by simp)), ?_⟩
          clear f0 q1 q2 i1 i2
          generalize chL [s2] _ = Z1 at *
          generalize chN [s2] _ _ = Z2 at *
          try simp only [cast1, Int.natCast_zero, Int.zero_add] at this
          try simp only [Int.natCast_zero, Int.zero_add] at yy
          try simp only [Int.natCast_zero]
          rw [lpB_eq]
          simp only [lp48] at ha yy this ⊢
          simp (maxSteps := 1000000) (disch := first | omega | decide | assumption | simp [scal]) [loadA_eq ia_76, lenA_sl lk_76, o_indexAddrS es_76, loadA_eq ia_71, loadA_eq ia_86, loadA_eq ia_24, ptrB, renB, ha, yy, addWr, ins, this]
theorem c75_2 : ∃ ws, ((ws = [(0, .loop (lp48 1 2 3))] ∧ chL [s1, s2] 0 = 0 ∧ chN [s1, s2] 0 0 = 0) ∨ (ws = [(0, .loop (lp48 1 2 3)), (2, c1 (chL [s1, s2] 0))] ∧ chN [s1, s2] 0 0 = 0) ∨ ws = [(0, .loop (lp48 1 2 3)), (2, c1 (chL [s1, s2] 0)), (1, c1 ((chN [s1, s2] 0 0 : Nat) : Int))]) ∧
    LL.run 75 [.func (.yield 0) #[] #[], pp 4, pp 8, pp 9] [.loop (lp48 1 2 3), c1 0, c1 0, c1 0, bxP 5 2 c, .cells [sl 6 0 n1 d1, sl 7 0 n2 d2] 1 false true, .cells cs1 1 true own1, .cells cs2 1 true own2, .cells [.func (.func 38) #[] #[]] 1 false true, bxR x y] = some ⟨.tuple #[], [], ws⟩ := by
  obtain ⟨W', i1, i2, this⟩ := l75_2_0 x y c n1 d1 n2 d2 s1 s2 ha1 ha2 0 0 [] (.inl ⟨rfl, rfl, rfl⟩) (Nat.le_refl _)
  have i2 := i2 (.inl (by omega))
  simp only [Int.natCast_zero] at this
  clear ha1 ha2
  generalize chL [s1, s2] 0 = Z1 at *
  generalize chN [s1, s2] 0 0 = Z2 at *
  rcases i1 with ⟨rfl, rfl, rfl⟩ | ⟨rfl, rfl, rfl⟩ | ⟨rfl, rfl⟩ | rfl
  · exact absurd rfl i2
  · refine ⟨_, .inl ⟨rfl, rfl, rfl⟩, go (by decide) ?_⟩
    rw [run75 _ _ _ (by simp)]
    simp only [lp48] at this ⊢
    simp (maxSteps := 1000000) (disch := first | omega | decide | assumption | simp [scal]) [loadA_eq ia_76, lenA_sl lk_76, o_indexAddrS es_76, loadA_eq ia_71, loadA_eq ia_86, loadA_eq ia_24, ptrB, renB, this, endS_normal]
  · refine ⟨_, .inr (.inl ⟨rfl, rfl⟩), go (by decide) ?_⟩
    rw [run75 _ _ _ (by simp)]
    simp only [lp48] at this ⊢
    simp (maxSteps := 1000000) (disch := first | omega | decide | assumption | simp [scal]) [loadA_eq ia_76, lenA_sl lk_76, o_indexAddrS es_76, loadA_eq ia_71, loadA_eq ia_86, loadA_eq ia_24, ptrB, renB, this, endS_normal]
  · refine ⟨_, .inr (.inr rfl), go (by decide) ?_⟩
    rw [run75 _ _ _ (by simp)]
    simp only [lp48] at this ⊢
    simp (maxSteps := 1000000) (disch := first | omega | decide | assumption | simp [scal]) [loadA_eq ia_76, lenA_sl lk_76, o_indexAddrS es_76, loadA_eq ia_71, loadA_eq ia_86, loadA_eq ia_24, ptrB, renB, this, endS_normal]
theorem h75_2 : ∃ W, (W = [9] ∨ W = [9, 7] ∨ W = [9, 7, 8]) ∧
    callH LL 75 [.func (.yield 9) #[] #[], pp 0, pp 4, pp 5] [bxP 1 2 c, .cells [sl 2 0 n1 d1, sl 3 0 n2 d2] 1 false true, .cells cs1 1 true own1, .cells cs2 1 true own2, .cells [.func (.func 38) #[] #[]] 1 false true, bxR x y, c1 0, c1 0, c1 0, .loop (lp48 8 7 6)] = some ⟨.tuple #[], [bxP 1 2 c, .cells [sl 2 0 n1 d1, sl 3 0 n2 d2] 1 false true, .cells cs1 1 true own1, .cells cs2 1 true own2, .cells [.func (.func 38) #[] #[]] 1 false true, bxR x y, c1 0, c1 (chL [s1, s2] 0), c1 ((chN [s1, s2] 0 0 : Nat) : Int), .loop (lp48 8 7 6)], [9, 8, 7, 6, 0, 1, 2, 3, 4, 5], W⟩ := by
  obtain ⟨ws, hw, e⟩ := c75_2 x y c n1 d1 n2 d2 s1 s2 ha1 ha2
  clear ha1 ha2
  have hm : ∀ q : Nat, 30 < q → reach [bxP 1 2 c, .cells [sl 2 0 n1 d1, sl 3 0 n2 d2] 1 false true, .cells cs1 1 true own1, .cells cs2 1 true own2, .cells [.func (.func 38) #[] #[]] 1 false true, bxR x y, c1 0, c1 0, c1 0, .loop (lp48 8 7 6)] 0 q [9, 0, 4, 5] [] = [9, 8, 7, 6, 0, 1, 2, 3, 4, 5] := by
    intro q hq
    obtain ⟨q, rfl⟩ : ∃ j, q = j + 30 := ⟨q - 30, by omega⟩
    simp [reach_cons, reachC_t, reachC_f, reach_nil, rootsB, GE.mem, nblt, nbeq, ptrB, lp48, ptrT, ptrV_ptr, ptrV_sl, ptrV_int, dep]
  have hpp : ([.func (.yield 9) #[] #[], pp 0, pp 4, pp 5] : List Value).flatMap (ptrV dep) = [9, 0, 4, 5] := rfl
  generalize chL [s1, s2] 0 = Z1 at *
  generalize chN [s1, s2] 0 0 = Z2 at *
  rcases hw with ⟨rfl, rfl, rfl⟩ | ⟨rfl, rfl⟩ | rfl
  · refine ⟨_, .inl rfl, callH_of (by intro _; first | trivial | rfl) ?_ (by simp)⟩
    unfold callH0
    simp only [hpp, hm reachN (by decide)]
    simp only [lp48] at e ⊢
    simp [optAll, renV_func, renFn, renL, renV_ptr, dep, idx, nbeq, renB, renT, renL_eq, renV_int, renV_sl, e, mergeB, renV_tuple, nblt]
  · refine ⟨_, .inr (.inl rfl), callH_of (by intro _; first | trivial | rfl) ?_ (by simp)⟩
    unfold callH0
    simp only [hpp, hm reachN (by decide)]
    simp only [lp48] at e ⊢
    simp [optAll, renV_func, renFn, renL, renV_ptr, dep, idx, nbeq, renB, renT, renL_eq, renV_int, renV_sl, e, mergeB, renV_tuple, nblt]
  · refine ⟨_, .inr (.inr rfl), callH_of (by intro _; first | trivial | rfl) ?_ (by simp)⟩
    unfold callH0
    simp only [hpp, hm reachN (by decide)]
    simp only [lp48] at e ⊢
    simp [optAll, renV_func, renFn, renL, renV_ptr, dep, idx, nbeq, renB, renT, renL_eq, renV_int, renV_sl, e, mergeB, renV_tuple, nblt]
theorem r48_2 : LL.run 48 [.func (.func 75) #[] #[pp 0, pp 4, pp 5]] [bxP 1 2 c, .cells [sl 2 0 n1 d1, sl 3 0 n2 d2] 1 false true, .cells cs1 1 true own1, .cells cs2 1 true own2, .cells [.func (.func 38) #[] #[]] 1 false true, bxR x y] = some ⟨iv (chN [s1, s2] 0 0 : Nat), [], []⟩ := by
  obtain ⟨W, hW, e⟩ := h75_2 x y c n1 d1 n2 d2 s1 s2 ha1 ha2
  clear ha1 ha2
  generalize chL [s1, s2] 0 = Z1 at *
  generalize chN [s1, s2] 0 0 = Z2 at *
  refine go (by decide) ?_
  simp only [lp48] at e
  rw [run48 _ _ _ (by simp)]
  simp (maxSteps := 1000000) (disch := first | omega | decide | assumption | simp [scal]) [za_3, sz_3, loadA_eq ia_3, want_some q48_21g3]
  rw [range_step n48_10e n48_10k rfl]
  rcases hW with rfl | rfl | rfl
  all_goals
    simp (maxSteps := 1000000) (disch := first | omega | decide | assumption | simp [scal]) [za_3, sz_3, loadA_eq ia_3, want_some q48_21g3, e]
    rw [rangeE_ready rfl rfl rfl]
    simp (maxSteps := 1000000) (disch := first | omega | decide | assumption | simp [scal]) [za_3, sz_3, loadA_eq ia_3, want_some q48_21g3, addWr]
end
theorem chN_le : ∀ (S : List Int) (l : Int) (n : Nat), chN S l n ≤ n + S.length := by
  intro S
  induction S with
  | nil => intro l n; exact Nat.le_refl _
  | cons s S ih =>
    intro l n
    unfold chN
    split
    · have := ih l n; simp only [List.length_cons]; omega
    · have := ih s (if l ≠ 0 ∧ s ≠ l then n + 1 else n)
      have h2 : (if l ≠ 0 ∧ s ≠ l then n + 1 else n) ≤ n + 1 := by split <;> omega
      simp only [List.length_cons]
      omega
section
variable (c d1 d2 : Nat) {cs1 cs2 : List Value} {own1 own2 : Bool} {p1 p2 : List Int} (hp1 : PoC cs1 p1) (h01 : 0 < p1.length) (h61 : p1.length ≤ 60) (hp2 : PoC cs2 p2) (h02 : 0 < p2.length) (h62 : p2.length ≤ 60)
include hp1 h01 h61 hp2 h02 h62
theorem k48_2 (z1 z2 : Blk) (x y : Int) (hb1 : evB x y p1.reverse 0 1 = true) (hb2 : evB x y p2.reverse 0 1 = true) (rest : List Blk) : callH LL 48 [.func (.func 75) #[] #[pp 5, pp 6, pp 7]] (.cells [sl 1 0 p1.length d1, sl 2 0 p2.length d2] 1 false true :: .cells cs1 1 true own1 :: .cells cs2 1 true own2 :: z1 :: z2 :: bxP 0 2 c :: .cells [.func (.func 38) #[] #[]] 1 false true :: bxR x y :: rest) =
    some ⟨iv (chN [sgP p1 x y, sgP p2 x y] 0 0 : Nat), .cells [sl 1 0 p1.length d1, sl 2 0 p2.length d2] 1 false true :: .cells cs1 1 true own1 :: .cells cs2 1 true own2 :: z1 :: z2 :: bxP 0 2 c :: .cells [.func (.func 38) #[] #[]] 1 false true :: bxR x y :: rest, [5, 0, 1, 2, 6, 7], []⟩ := by
  have e := r48_2 x y c p1.length d1 p2.length d2 (cs1 := cs1) (sgP p1 x y) (sgP p2 x y) (own1 := own1) (own2 := own2) (fun l n => k38 6 d1 rfl hp1 h01 h61 x y hb1) (fun l n => k38 7 d2 rfl hp2 h02 h62 x y hb2)
  generalize chN _ 0 0 = Z2 at *
  have hm : ∀ q : Nat, 30 < q → reach (.cells [sl 1 0 p1.length d1, sl 2 0 p2.length d2] 1 false true :: .cells cs1 1 true own1 :: .cells cs2 1 true own2 :: z1 :: z2 :: bxP 0 2 c :: .cells [.func (.func 38) #[] #[]] 1 false true :: bxR x y :: rest) 0 q [5, 6, 7] [] = [5, 0, 1, 2, 6, 7] := by
    intro q hq
    obtain ⟨q, rfl⟩ : ∃ j, q = j + 30 := ⟨q - 30, by omega⟩
    simp [reach_cons, reachC_t, reachC_f, reach_nil, rootsB, GE.mem, nblt, nbeq, ptrB, ptrT, ptrV_ptr, ptrV_sl, ptrV_int, ptrV_func, ptrFn, ptrL, dep]
  have hpp : ([.func (.func 75) #[] #[pp 5, pp 6, pp 7]] : List Value).flatMap (ptrV dep) = [5, 6, 7] := rfl
  refine callH_of (by intro _; first | trivial | rfl) ?_ (by simp)
  unfold callH0
  simp only [hpp, hm reachN (by decide)]
  simp [optAll, renV_func, renFn, renL, renV_ptr, dep, idx, nbeq, renB, renT, renL_eq, renV_int, renV_sl, e, mergeB, renV_tuple, nblt]
theorem k48b_2 (z1 z2 z3 z4 z5 : Blk) (x y : Int) (hb1 : evB x y p1.reverse 0 1 = true) (hb2 : evB x y p2.reverse 0 1 = true) (rest : List Blk) : callH LL 48 [.func (.func 75) #[] #[pp 8, pp 9, pp 10]] (.cells [sl 1 0 p1.length d1, sl 2 0 p2.length d2] 1 false true :: .cells cs1 1 true own1 :: .cells cs2 1 true own2 :: z1 :: z2 :: z3 :: z4 :: z5 :: bxP 0 2 c :: .cells [.func (.func 38) #[] #[]] 1 false true :: bxR x y :: rest) =
    some ⟨iv (chN [sgP p1 x y, sgP p2 x y] 0 0 : Nat), .cells [sl 1 0 p1.length d1, sl 2 0 p2.length d2] 1 false true :: .cells cs1 1 true own1 :: .cells cs2 1 true own2 :: z1 :: z2 :: z3 :: z4 :: z5 :: bxP 0 2 c :: .cells [.func (.func 38) #[] #[]] 1 false true :: bxR x y :: rest, [8, 0, 1, 2, 9, 10], []⟩ := by
  have e := r48_2 x y c p1.length d1 p2.length d2 (cs1 := cs1) (sgP p1 x y) (sgP p2 x y) (own1 := own1) (own2 := own2) (fun l n => k38 6 d1 rfl hp1 h01 h61 x y hb1) (fun l n => k38 7 d2 rfl hp2 h02 h62 x y hb2)
  generalize chN _ 0 0 = Z2 at *
  have hm : ∀ q : Nat, 30 < q → reach (.cells [sl 1 0 p1.length d1, sl 2 0 p2.length d2] 1 false true :: .cells cs1 1 true own1 :: .cells cs2 1 true own2 :: z1 :: z2 :: z3 :: z4 :: z5 :: bxP 0 2 c :: .cells [.func (.func 38) #[] #[]] 1 false true :: bxR x y :: rest) 0 q [8, 9, 10] [] = [8, 0, 1, 2, 9, 10] := by
    intro q hq
    obtain ⟨q, rfl⟩ : ∃ j, q = j + 30 := ⟨q - 30, by omega⟩
    simp [reach_cons, reachC_t, reachC_f, reach_nil, rootsB, GE.mem, nblt, nbeq, ptrB, ptrT, ptrV_ptr, ptrV_sl, ptrV_int, ptrV_func, ptrFn, ptrL, dep]
  have hpp : ([.func (.func 75) #[] #[pp 8, pp 9, pp 10]] : List Value).flatMap (ptrV dep) = [8, 9, 10] := rfl
  refine callH_of (by intro _; first | trivial | rfl) ?_ (by simp)
  unfold callH0
  simp only [hpp, hm reachN (by decide)]
  simp [optAll, renV_func, renFn, renL, renV_ptr, dep, idx, nbeq, renB, renT, renL_eq, renV_int, renV_sl, e, mergeB, renV_tuple, nblt]
theorem k49_2 (x y : Int) (rest : List Blk) : callH LL 49 [sl 0 0 2 c, .agg #[iv x, iv y], .func (.func 38) #[] #[]] (.cells [sl 1 0 p1.length d1, sl 2 0 p2.length d2] 1 false true :: .cells cs1 1 true own1 :: .cells cs2 1 true own2 :: rest) =
    some ⟨.func (.func 75) #[] #[pp (rest.length + 3), pp (rest.length + 4), pp (rest.length + 5)], .cells [sl 1 0 p1.length d1, sl 2 0 p2.length d2] 1 false true :: .cells cs1 1 true own1 :: .cells cs2 1 true own2 :: (rest ++ [bxP 0 2 c, .cells [.func (.func 38) #[] #[]] 1 false true, bxR x y]), [0, 1, 2], []⟩ := by
  have e : LL.run 49 [sl 0 0 2 c, .agg #[iv x, iv y], .func (.func 38) #[] #[]] [.cells [sl 1 0 p1.length d1, sl 2 0 p2.length d2] 1 false true, .cells cs1 1 true own1, .cells cs2 1 true own2] = some ⟨.func (.func 75) #[] #[pp 3, pp 4, pp 5], [bxP 0 2 c, .cells [.func (.func 38) #[] #[]] 1 false true, bxR x y], []⟩ := by
    refine go (by decide) ?_
    rw [run49 _ _ _ (by simp)]
    simp (maxSteps := 1000000) (disch := first | omega | decide | assumption | simp [scal])
  have hm : ∀ q : Nat, 30 < q → reach (.cells [sl 1 0 p1.length d1, sl 2 0 p2.length d2] 1 false true :: .cells cs1 1 true own1 :: .cells cs2 1 true own2 :: rest) 0 q [0] [] = [0, 1, 2] := by
    intro q hq
    obtain ⟨q, rfl⟩ : ∃ j, q = j + 30 := ⟨q - 30, by omega⟩
    simp [reach_cons, reachC_t, reachC_f, reach_nil, rootsB, GE.mem, nblt, nbeq, ptrB, ptrT, ptrV_ptr, ptrV_sl, ptrV_int, ptrV_func, ptrFn, ptrL, dep]
  have hpp : ([sl 0 0 2 c, .agg #[iv x, iv y], .func (.func 38) #[] #[]] : List Value).flatMap (ptrV dep) = [0] := rfl
  refine callH_of (by intro _; first | trivial | rfl) ?_ (by simp)
  unfold callH0
  simp only [hpp, hm reachN (by decide)]
  simp [optAll, renV_func, renFn, renL, renV_ptr, renV_agg, dep, idx, nbeq, renB, renT, renL_eq, renV_int, renV_sl, e, mergeB, renV_tuple, nblt]
theorem r52_2 (x y u v : Int) (hb1 : evB x y p1.reverse 0 1 = true) (hb2 : evB x y p2.reverse 0 1 = true) (hb1b : evB u v p1.reverse 0 1 = true) (hb2b : evB u v p2.reverse 0 1 = true) : LL.run 52 [sl 0 0 2 c, .agg #[iv x, iv y], .agg #[iv u, iv v]] [.cells [sl 1 0 p1.length d1, sl 2 0 p2.length d2] 1 false true, .cells cs1 1 true own1, .cells cs2 1 true own2] =
    some ⟨iv ((chN [sgP p1 x y, sgP p2 x y] 0 0 : Nat) - (chN [sgP p1 u v, sgP p2 u v] 0 0 : Nat) : Int), [], []⟩ := by
  have a1 := fun R => k49_2 c d1 d2 (own1 := own1) (own2 := own2) hp1 h01 h61 hp2 h02 h62 x y R
  have a2 := fun z1 z2 R => k48_2 c d1 d2 (own1 := own1) (own2 := own2) hp1 h01 h61 hp2 h02 h62 z1 z2 x y hb1 hb2 R
  have a3 := fun R => k49_2 c d1 d2 (own1 := own1) (own2 := own2) hp1 h01 h61 hp2 h02 h62 u v R
  have a4 := fun z1 z2 z3 z4 z5 R => k48b_2 c d1 d2 (own1 := own1) (own2 := own2) hp1 h01 h61 hp2 h02 h62 z1 z2 z3 z4 z5 u v hb1b hb2b R
  have b1 := chN_le [sgP p1 x y, sgP p2 x y] 0 0
  have b2 := chN_le [sgP p1 u v, sgP p2 u v] 0 0
  simp only [List.length_cons, List.length_nil] at b1 b2
  clear hp1 h01 h61 hp2 h02 h62 hb1 hb1b hb2 hb2b
  generalize chN [sgP p1 x y, sgP p2 x y] 0 0 = N1 at *
  generalize chN [sgP p1 u v, sgP p2 u v] 0 0 = N2 at *
  refine go (by decide) ?_
  rw [run52 _ _ _ (by simp)]
  simp (maxSteps := 1000000) (disch := first | omega | decide | assumption | simp [scal]) [loadA_eq ia_24, a1, a2, a3, a4]
end
end Go.Proofs.Ytkmompbfcgjgmaa.nt
namespace Go.Proofs.Ytkmompbfcgjgmaa.nt
open Go.GE
set_option linter.unusedVariables false
set_option linter.unusedSimpArgs false
set_option linter.unusedSectionVars false
set_option maxRecDepth 100000
set_option maxHeartbeats 4000000
attribute [local simp] runOps_nil runOps_cons runOpsF_nil runOpsF_cons fstS_some fstF_some opStep_eq want_none oStep_true oStep_false fin_pure fin_read fin_alloc fin_write storeB wrN cellV addWr o_move o_assign o_pick o_alloc o_box o_load o_store o_nilCheck o_bin o_un o_extract o_callV o_callB o_callI callV_f callV_y callV_fc o_makeFunc partsA Instr.fill builtin_len builtin_max2 bin_add bin_sub bin_mul bin_quo bin_rem bin_lss bin_leq bin_gtr bin_geq bin_eql bin_neq un_neg un_not bin_shr bin_shl wrap_u64_id opd opds optAll putO nbeq nblt constOk isC ops sub cl cr co bodyOf thenS_normal thenS_ret thenS_exit thenS_goto afterN_normal afterN_ret afterN_exit afterN_goto condS_true condS_false blockS_normal blockS_ret blockS_exit blockS_goto headS normS normK_eq fixS_nil fixS_cons fix1 fixV emptyB keepO_nil keepO_cons roundC_normal roundC_exit roundC_ret roundC_goto sweep_eq sweepD rnm pickR pickW rootsB ptrT renT ptrFn renFn ptrB_flat ptrB_non renB_flat renB_non plainS_some drawS_some fpsOk disj unord range' dropTo enumT undef wrap_i64_id Value.cells mkCells ptrTo scal cellsAt rdN endS_ret resultsA Option.bind_some tupV finish reachN dep ptrL_eq ptrL renL_eq renL ptrV_bool ptrV_int ptrV_string ptrV_nilFunc ptrV_nilIface ptrV_nilPtr ptrV_ptr ptrV_nilSl ptrV_sl ptrV_iface ptrV_agg ptrV_tuple ptrV_func renV_bool renV_int renV_string renV_nilFunc renV_nilIface renV_nilPtr renV_ptr renV_nilSl renV_sl renV_iface renV_agg renV_tuple renV_func gotoS_goto gotoS_normal gotoS_exit gotoS_ret skip_seq sliceE bnd bndHi intOf optOpd keepT_nil keepT_cons keepC_t keepC_f lk_nil lk_cons lkC_t lkC_f has_nil has_cons hasC_t hasC_f rep_nil rep_cons repC_t repC_f put_eq putC_t putC_f mem_nil mem_cons memC_t memC_f idx_nil idx_cons idxC_t idxC_f reach_nil reachP_cons reachQ_t reachQ_f ptrB_dead renB_dead ins_eq
attribute [local simp] n75_1s n75_5s n75_8s n75_9s n75_7s n75_13s n75_15s n75_17s n75_18s n75_16s n75_14s n75_12s n75_11s n75_19s n75_10s n75_6s n75_4s n75_3s n75_3g n75_2s n75_0s Try.f75 n48_1s n48_3s n48_5s n48_8s n48_11s n48_15s n48_17s n48_18s n48_16s n48_14s n48_21s n48_23s n48_24s n48_22s n48_20s n48_25s n48_19s n48_13s n48_12s n48_9s n48_7s n48_27s n48_28s n48_26s n48_6s n48_4s n48_2s n48_0s Try.f48 n49_1s n49_3s n49_4s n49_2s n49_0s Try.f49 n52_1s n52_3s n52_4s n52_2s n52_0s Try.f52
section
variable (x y : Int) (c n1 d1 n2 d2 n3 d3 : Nat) {cs1 cs2 cs3 : List Value} {own1 own2 own3 : Bool} (s1 s2 s3 : Int) (ha1 : ∀ (l n : Int), callH LL 38 [sl 6 0 n1 d1, .agg #[iv x, iv y]] [.loop (lp48 1 2 3), c1 n, c1 l, c1 0, bxP 5 3 c, .cells [sl 6 0 n1 d1, sl 7 0 n2 d2, sl 8 0 n3 d3] 1 false true, .cells cs1 1 true own1, .cells cs2 1 true own2, .cells cs3 1 true own3, .cells [.func (.func 38) #[] #[]] 1 false true, bxR x y] = some ⟨iv s1, [.loop (lp48 1 2 3), c1 n, c1 l, c1 0, bxP 5 3 c, .cells [sl 6 0 n1 d1, sl 7 0 n2 d2, sl 8 0 n3 d3] 1 false true, .cells cs1 1 true own1, .cells cs2 1 true own2, .cells cs3 1 true own3, .cells [.func (.func 38) #[] #[]] 1 false true, bxR x y], [6], []⟩) (ha2 : ∀ (l n : Int), callH LL 38 [sl 7 0 n2 d2, .agg #[iv x, iv y]] [.loop (lp48 1 2 3), c1 n, c1 l, c1 0, bxP 5 3 c, .cells [sl 6 0 n1 d1, sl 7 0 n2 d2, sl 8 0 n3 d3] 1 false true, .cells cs1 1 true own1, .cells cs2 1 true own2, .cells cs3 1 true own3, .cells [.func (.func 38) #[] #[]] 1 false true, bxR x y] = some ⟨iv s2, [.loop (lp48 1 2 3), c1 n, c1 l, c1 0, bxP 5 3 c, .cells [sl 6 0 n1 d1, sl 7 0 n2 d2, sl 8 0 n3 d3] 1 false true, .cells cs1 1 true own1, .cells cs2 1 true own2, .cells cs3 1 true own3, .cells [.func (.func 38) #[] #[]] 1 false true, bxR x y], [7], []⟩) (ha3 : ∀ (l n : Int), callH LL 38 [sl 8 0 n3 d3, .agg #[iv x, iv y]] [.loop (lp48 1 2 3), c1 n, c1 l, c1 0, bxP 5 3 c, .cells [sl 6 0 n1 d1, sl 7 0 n2 d2, sl 8 0 n3 d3] 1 false true, .cells cs1 1 true own1, .cells cs2 1 true own2, .cells cs3 1 true own3, .cells [.func (.func 38) #[] #[]] 1 false true, bxR x y] = some ⟨iv s3, [.loop (lp48 1 2 3), c1 n, c1 l, c1 0, bxP 5 3 c, .cells [sl 6 0 n1 d1, sl 7 0 n2 d2, sl 8 0 n3 d3] 1 false true, .cells cs1 1 true own1, .cells cs2 1 true own2, .cells cs3 1 true own3, .cells [.func (.func 38) #[] #[]] 1 false true, bxR x y], [8], []⟩)
include ha1 ha2 ha3
theorem l75_3_3 (l : Int) (n : Nat) (W : List Nat) (hI : InvW l n W) (hn : n ≤ 3) : ∃ W', InvW (chL [] l) (chN [] l n) W' ∧ ((3 < 3 ∨ W ≠ []) → W' ≠ []) ∧
    lpB Try.prog LL ⟨75, 21, 11, none⟩ n75_3 n75_4 ⟨[(0, .func (.yield 0) #[] #[]), (2, pp 9), (3, pp 10), (7, sl 5 0 3 c), (8, iv 3), (9, iv 3)], [.loop (lp48 1 2 3), c1 ((n : Nat) : Int), c1 l, c1 0, bxP 5 3 c, .cells [sl 6 0 n1 d1, sl 7 0 n2 d2, sl 8 0 n3 d3] 1 false true, .cells cs1 1 true own1, .cells cs2 1 true own2, .cells cs3 1 true own3, .cells [.func (.func 38) #[] #[]] 1 false true, bxR x y], W⟩ =
      some (.exit 0, ⟨[], [.loop (lp48 1 2 3), c1 ((chN [] l n : Nat) : Int), c1 (chL [] l), c1 0, bxP 5 3 c, .cells [sl 6 0 n1 d1, sl 7 0 n2 d2, sl 8 0 n3 d3] 1 false true, .cells cs1 1 true own1, .cells cs2 1 true own2, .cells cs3 1 true own3, .cells [.func (.func 38) #[] #[]] 1 false true, bxR x y], W'⟩) := by
  refine ⟨W, hI, fun h => h.elim (fun h => absurd h (by omega)) id, ?_⟩
  simp only [chL, chN]
  rw [lpB_eq]
  simp only [lp48]
  clear ha1 ha2 ha3
  rcases hI with ⟨rfl, rfl, rfl⟩ | ⟨rfl, rfl, rfl⟩ | ⟨rfl, rfl⟩ | rfl <;>
  simp (maxSteps := 1000000) (disch := first | omega | decide | assumption | simp [scal]) [loadA_eq ia_76, lenA_sl lk_76, o_indexAddrS es_76, loadA_eq ia_71, loadA_eq ia_86, loadA_eq ia_24, ptrB, renB]
theorem l75_3_2 (l : Int) (n : Nat) (W : List Nat) (hI : InvW l n W) (hn : n ≤ 2) : ∃ W', InvW (chL [s3] l) (chN [s3] l n) W' ∧ ((2 < 3 ∨ W ≠ []) → W' ≠ []) ∧
    lpB Try.prog LL ⟨75, 21, 11, none⟩ n75_3 n75_4 ⟨[(0, .func (.yield 0) #[] #[]), (2, pp 9), (3, pp 10), (7, sl 5 0 3 c), (8, iv 3), (9, iv 2)], [.loop (lp48 1 2 3), c1 ((n : Nat) : Int), c1 l, c1 0, bxP 5 3 c, .cells [sl 6 0 n1 d1, sl 7 0 n2 d2, sl 8 0 n3 d3] 1 false true, .cells cs1 1 true own1, .cells cs2 1 true own2, .cells cs3 1 true own3, .cells [.func (.func 38) #[] #[]] 1 false true, bxR x y], W⟩ =
      some (.exit 0, ⟨[], [.loop (lp48 1 2 3), c1 ((chN [s3] l n : Nat) : Int), c1 (chL [s3] l), c1 0, bxP 5 3 c, .cells [sl 6 0 n1 d1, sl 7 0 n2 d2, sl 8 0 n3 d3] 1 false true, .cells cs1 1 true own1, .cells cs2 1 true own2, .cells cs3 1 true own3, .cells [.func (.func 38) #[] #[]] 1 false true, bxR x y], W'⟩) := by
  have ha := ha3
  have f0 := fun l n W (h : InvW l n W) (hn : n ≤ 3) => l75_3_3 x y c n1 d1 n2 d2 n3 d3 s1 s2 s3 ha1 ha2 ha3 l n W h hn
  clear ha1 ha2 ha3
  generalize hs : s3 = s at *
  rcases hI with ⟨rfl, rfl, rfl⟩ | ⟨rfl, rfl, rfl⟩ | ⟨rfl, rfl⟩ | rfl
  · by_cases h0 : s = 0
    · subst h0
      have q1 : chL (0 :: []) 0 = chL [] 0 := by simp [chL]
      have q2 : chN (0 :: []) 0 0 = chN [] 0 0 := by simp [chN]
      obtain ⟨W', i1, i2, this⟩ := f0 0 0 [0] (.inr (.inl ⟨rfl, rfl, rfl⟩)) (by omega)
      have yy := y48z 0 ((0 : Nat) : Int)
      rw [q1, q2]
      refine ⟨W', i1, fun _ => i2 (.inr (by simp)), ?_⟩
      clear f0 q1 q2 i1 i2
      generalize chL [] _ = Z1 at *
      generalize chN [] _ _ = Z2 at *
      try simp only [cast1, Int.natCast_zero, Int.zero_add] at this
      try simp only [Int.natCast_zero, Int.zero_add] at yy
      try simp only [Int.natCast_zero]
      rw [lpB_eq]
      simp only [lp48] at ha yy this ⊢
      simp (maxSteps := 1000000) (disch := first | omega | decide | assumption | simp [scal]) [loadA_eq ia_76, lenA_sl lk_76, o_indexAddrS es_76, loadA_eq ia_71, loadA_eq ia_86, loadA_eq ia_24, ptrB, renB, ha, yy, addWr, ins, this, Int.natCast_zero]
    · skip
      have q1 : chL (s :: []) 0 = chL [] s := by simp [chL, h0]
      have q2 : chN (s :: []) 0 0 = chN [] s 0 := by simp [chN, h0]
      obtain ⟨W', i1, i2, this⟩ := f0 s 0 [0, 2] (.inr (.inr (.inl ⟨rfl, rfl⟩))) (by omega)
      have yy := y48b s 0 0 (by omega) h0 rfl
      rw [q1, q2]
      refine ⟨W', i1, fun _ => i2 (.inr (by simp)), ?_⟩
      clear f0 q1 q2 i1 i2
      generalize chL [] _ = Z1 at *
      generalize chN [] _ _ = Z2 at *
      try simp only [cast1, Int.natCast_zero, Int.zero_add] at this
      try simp only [Int.natCast_zero, Int.zero_add] at yy
      try simp only [Int.natCast_zero]
      rw [lpB_eq]
      simp only [lp48] at ha yy this ⊢
      simp (maxSteps := 1000000) (disch := first | omega | decide | assumption | simp [scal]) [loadA_eq ia_76, lenA_sl lk_76, o_indexAddrS es_76, loadA_eq ia_71, loadA_eq ia_86, loadA_eq ia_24, ptrB, renB, ha, yy, addWr, ins, this, Int.natCast_zero]
  · by_cases h0 : s = 0
    · subst h0
      have q1 : chL (0 :: []) 0 = chL [] 0 := by simp [chL]
      have q2 : chN (0 :: []) 0 0 = chN [] 0 0 := by simp [chN]
      obtain ⟨W', i1, i2, this⟩ := f0 0 0 [0] (.inr (.inl ⟨rfl, rfl, rfl⟩)) (by omega)
      have yy := y48z 0 ((0 : Nat) : Int)
      rw [q1, q2]
      refine ⟨W', i1, fun _ => i2 (.inr (by simp)), ?_⟩
      clear f0 q1 q2 i1 i2
      generalize chL [] _ = Z1 at *
      generalize chN [] _ _ = Z2 at *
      try simp only [cast1, Int.natCast_zero, Int.zero_add] at this
      try simp only [Int.natCast_zero, Int.zero_add] at yy
      try simp only [Int.natCast_zero]
      rw [lpB_eq]
      simp only [lp48] at ha yy this ⊢
      simp (maxSteps := 1000000) (disch := first | omega | decide | assumption | simp [scal]) [loadA_eq ia_76, lenA_sl lk_76, o_indexAddrS es_76, loadA_eq ia_71, loadA_eq ia_86, loadA_eq ia_24, ptrB, renB, ha, yy, addWr, ins, this, Int.natCast_zero]
    · skip
      have q1 : chL (s :: []) 0 = chL [] s := by simp [chL, h0]
      have q2 : chN (s :: []) 0 0 = chN [] s 0 := by simp [chN, h0]
      obtain ⟨W', i1, i2, this⟩ := f0 s 0 [0, 2] (.inr (.inr (.inl ⟨rfl, rfl⟩))) (by omega)
      have yy := y48b s 0 0 (by omega) h0 rfl
      rw [q1, q2]
      refine ⟨W', i1, fun _ => i2 (.inr (by simp)), ?_⟩
      clear f0 q1 q2 i1 i2
      generalize chL [] _ = Z1 at *
      generalize chN [] _ _ = Z2 at *
      try simp only [cast1, Int.natCast_zero, Int.zero_add] at this
      try simp only [Int.natCast_zero, Int.zero_add] at yy
      try simp only [Int.natCast_zero]
      rw [lpB_eq]
      simp only [lp48] at ha yy this ⊢
      simp (maxSteps := 1000000) (disch := first | omega | decide | assumption | simp [scal]) [loadA_eq ia_76, lenA_sl lk_76, o_indexAddrS es_76, loadA_eq ia_71, loadA_eq ia_86, loadA_eq ia_24, ptrB, renB, ha, yy, addWr, ins, this, Int.natCast_zero]
  · by_cases h0 : s = 0
    · subst h0
      have q1 : chL (0 :: []) l = chL [] l := by simp [chL]
      have q2 : chN (0 :: []) l 0 = chN [] l 0 := by simp [chN]
      obtain ⟨W', i1, i2, this⟩ := f0 l 0 [0, 2] (.inr (.inr (.inl ⟨rfl, rfl⟩))) (by omega)
      have yy := y48z l ((0 : Nat) : Int)
      rw [q1, q2]
      refine ⟨W', i1, fun _ => i2 (.inr (by simp)), ?_⟩
      clear f0 q1 q2 i1 i2
      generalize chL [] _ = Z1 at *
      generalize chN [] _ _ = Z2 at *
      try simp only [cast1, Int.natCast_zero, Int.zero_add] at this
      try simp only [Int.natCast_zero, Int.zero_add] at yy
      try simp only [Int.natCast_zero]
      rw [lpB_eq]
      simp only [lp48] at ha yy this ⊢
      simp (maxSteps := 1000000) (disch := first | omega | decide | assumption | simp [scal]) [loadA_eq ia_76, lenA_sl lk_76, o_indexAddrS es_76, loadA_eq ia_71, loadA_eq ia_86, loadA_eq ia_24, ptrB, renB, ha, yy, addWr, ins, this, Int.natCast_zero]
    · by_cases h1 : l = 0
      · subst h1
        have q1 : chL (s :: []) 0 = chL [] s := by simp [chL, h0]
        have q2 : chN (s :: []) 0 0 = chN [] s 0 := by simp [chN, h0]
        obtain ⟨W', i1, i2, this⟩ := f0 s 0 [0, 2] (.inr (.inr (.inl ⟨rfl, rfl⟩))) (by omega)
        have yy := y48b s 0 0 (by omega) h0 rfl
        rw [q1, q2]
        refine ⟨W', i1, fun _ => i2 (.inr (by simp)), ?_⟩
        clear f0 q1 q2 i1 i2
        generalize chL [] _ = Z1 at *
        generalize chN [] _ _ = Z2 at *
        try simp only [cast1, Int.natCast_zero, Int.zero_add] at this
        try simp only [Int.natCast_zero, Int.zero_add] at yy
        try simp only [Int.natCast_zero]
        rw [lpB_eq]
        simp only [lp48] at ha yy this ⊢
        simp (maxSteps := 1000000) (disch := first | omega | decide | assumption | simp [scal]) [loadA_eq ia_76, lenA_sl lk_76, o_indexAddrS es_76, loadA_eq ia_71, loadA_eq ia_86, loadA_eq ia_24, ptrB, renB, ha, yy, addWr, ins, this, Int.natCast_zero]
      · by_cases h2 : s = l
        · skip
          have q1 : chL (s :: []) l = chL [] s := by simp [chL, h0, h1, h2]
          have q2 : chN (s :: []) l 0 = chN [] s 0 := by simp [chN, h0, h1, h2]
          obtain ⟨W', i1, i2, this⟩ := f0 s 0 [0, 2] (.inr (.inr (.inl ⟨rfl, rfl⟩))) (by omega)
          have yy := y48c s l 0 (by omega) h0 h1 h2
          rw [q1, q2]
          refine ⟨W', i1, fun _ => i2 (.inr (by simp)), ?_⟩
          clear f0 q1 q2 i1 i2
          generalize chL [] _ = Z1 at *
          generalize chN [] _ _ = Z2 at *
          try simp only [cast1, Int.natCast_zero, Int.zero_add] at this
          try simp only [Int.natCast_zero, Int.zero_add] at yy
          try simp only [Int.natCast_zero]
          rw [lpB_eq]
          simp only [lp48] at ha yy this ⊢
          simp (maxSteps := 1000000) (disch := first | omega | decide | assumption | simp [scal]) [loadA_eq ia_76, lenA_sl lk_76, o_indexAddrS es_76, loadA_eq ia_71, loadA_eq ia_86, loadA_eq ia_24, ptrB, renB, ha, yy, addWr, ins, this, Int.natCast_zero]
        · skip
          have q1 : chL (s :: []) l = chL [] s := by simp [chL, h0, h1, h2]
          have q2 : chN (s :: []) l 0 = chN [] s (0 + 1) := by simp [chN, h0, h1, h2]
          obtain ⟨W', i1, i2, this⟩ := f0 s (0 + 1) [0, 2, 1] (.inr (.inr (.inr rfl))) (by omega)
          have yy := y48a s l 0 (by omega) h0 h1 h2
          rw [q1, q2]
          refine ⟨W', i1, fun _ => i2 (.inr (by simp)), ?_⟩
          clear f0 q1 q2 i1 i2
          generalize chL [] _ = Z1 at *
          generalize chN [] _ _ = Z2 at *
          try simp only [cast1, Int.natCast_zero, Int.zero_add] at this
          try simp only [Int.natCast_zero, Int.zero_add] at yy
          try simp only [Int.natCast_zero]
          rw [lpB_eq]
          simp only [lp48] at ha yy this ⊢
          simp (maxSteps := 1000000) (disch := first | omega | decide | assumption | simp [scal]) [loadA_eq ia_76, lenA_sl lk_76, o_indexAddrS es_76, loadA_eq ia_71, loadA_eq ia_86, loadA_eq ia_24, ptrB, renB, ha, yy, addWr, ins, this, Int.natCast_zero]
  · by_cases h0 : s = 0
    · subst h0
      have q1 : chL (0 :: []) l = chL [] l := by simp [chL]
      have q2 : chN (0 :: []) l n = chN [] l n := by simp [chN]
      obtain ⟨W', i1, i2, this⟩ := f0 l n [0, 2, 1] (.inr (.inr (.inr rfl))) (by omega)
      have yy := y48z l ((n : Nat) : Int)
      rw [q1, q2]
      refine ⟨W', i1, fun _ => i2 (.inr (by simp)), ?_⟩
      clear f0 q1 q2 i1 i2
      generalize chL [] _ = Z1 at *
      generalize chN [] _ _ = Z2 at *
      try simp only [cast1, Int.natCast_zero, Int.zero_add] at this
      try simp only [Int.natCast_zero, Int.zero_add] at yy
      try simp only [Int.natCast_zero]
      rw [lpB_eq]
      simp only [lp48] at ha yy this ⊢
      simp (maxSteps := 1000000) (disch := first | omega | decide | assumption | simp [scal]) [loadA_eq ia_76, lenA_sl lk_76, o_indexAddrS es_76, loadA_eq ia_71, loadA_eq ia_86, loadA_eq ia_24, ptrB, renB, ha, yy, addWr, ins, this]
    · by_cases h1 : l = 0
      · subst h1
        have q1 : chL (s :: []) 0 = chL [] s := by simp [chL, h0]
        have q2 : chN (s :: []) 0 n = chN [] s n := by simp [chN, h0]
        obtain ⟨W', i1, i2, this⟩ := f0 s n [0, 2, 1] (.inr (.inr (.inr rfl))) (by omega)
        have yy := y48b s 0 n (by omega) h0 rfl
        rw [q1, q2]
        refine ⟨W', i1, fun _ => i2 (.inr (by simp)), ?_⟩
        clear f0 q1 q2 i1 i2
        generalize chL [] _ = Z1 at *
        generalize chN [] _ _ = Z2 at *
        try simp only [cast1, Int.natCast_zero, Int.zero_add] at this
        try simp only [Int.natCast_zero, Int.zero_add] at yy
        try simp only [Int.natCast_zero]
        rw [lpB_eq]
        simp only [lp48] at ha yy this ⊢
        simp (maxSteps := 1000000) (disch := first | omega | decide | assumption | simp [scal]) [loadA_eq ia_76, lenA_sl lk_76, o_indexAddrS es_76, loadA_eq ia_71, loadA_eq ia_86, loadA_eq ia_24, ptrB, renB, ha, yy, addWr, ins, this]
      · by_cases h2 : s = l
        · skip
          have q1 : chL (s :: []) l = chL [] s := by simp [chL, h0, h1, h2]
          have q2 : chN (s :: []) l n = chN [] s n := by simp [chN, h0, h1, h2]
          obtain ⟨W', i1, i2, this⟩ := f0 s n [0, 2, 1] (.inr (.inr (.inr rfl))) (by omega)
          have yy := y48c s l n (by omega) h0 h1 h2
          rw [q1, q2]
          refine ⟨W', i1, fun _ => i2 (.inr (by simp)), ?_⟩
          clear f0 q1 q2 i1 i2
          generalize chL [] _ = Z1 at *
          generalize chN [] _ _ = Z2 at *
          try simp only [cast1, Int.natCast_zero, Int.zero_add] at this
          try simp only [Int.natCast_zero, Int.zero_add] at yy
          try simp only [Int.natCast_zero]
          rw [lpB_eq]
          simp only [lp48] at ha yy this ⊢
          simp (maxSteps := 1000000) (disch := first | omega | decide | assumption | simp [scal]) [loadA_eq ia_76, lenA_sl lk_76, o_indexAddrS es_76, loadA_eq ia_71, loadA_eq ia_86, loadA_eq ia_24, ptrB, renB, ha, yy, addWr, ins, this]
        · skip
          have q1 : chL (s :: []) l = chL [] s := by simp [chL, h0, h1, h2]
          have q2 : chN (s :: []) l n = chN [] s (n + 1) := by simp [chN, h0, h1, h2]
          obtain ⟨W', i1, i2, this⟩ := f0 s (n + 1) [0, 2, 1] (.inr (.inr (.inr rfl))) (by omega)
          have yy := y48a s l n (by omega) h0 h1 h2
          rw [q1, q2]
          refine ⟨W', i1, fun _ => i2 (.inr (by simp)), ?_⟩
          clear f0 q1 q2 i1 i2
          generalize chL [] _ = Z1 at *
          generalize chN [] _ _ = Z2 at *
          try simp only [cast1, Int.natCast_zero, Int.zero_add] at this
          try simp only [Int.natCast_zero, Int.zero_add] at yy
          try simp only [Int.natCast_zero]
          rw [lpB_eq]
          simp only [lp48] at ha yy this ⊢
          simp (maxSteps := 1000000) (disch := first | omega | decide | assumption | simp [scal]) [loadA_eq ia_76, lenA_sl lk_76, o_indexAddrS es_76, loadA_eq ia_71, loadA_eq ia_86, loadA_eq ia_24, ptrB, renB, ha, yy, addWr, ins, this]
theorem l75_3_1 (l : Int) (n : Nat) (W : List Nat) (hI : InvW l n W) (hn : n ≤ 1) : ∃ W', InvW (chL [s2, s3] l) (chN [s2, s3] l n) W' ∧ ((1 < 3 ∨ W ≠ []) → W' ≠ []) ∧
    lpB Try.prog LL ⟨75, 21, 11, none⟩ n75_3 n75_4 ⟨[(0, .func (.yield 0) #[] #[]), (2, pp 9), (3, pp 10), (7, sl 5 0 3 c), (8, iv 3), (9, iv 1)], [.loop (lp48 1 2 3), c1 ((n : Nat) : Int), c1 l, c1 0, bxP 5 3 c, .cells [sl 6 0 n1 d1, sl 7 0 n2 d2, sl 8 0 n3 d3] 1 false true, .cells cs1 1 true own1, .cells cs2 1 true own2, .cells cs3 1 true own3, .cells [.func (.func 38) #[] #[]] 1 false true, bxR x y], W⟩ =
      some (.exit 0, ⟨[], [.loop (lp48 1 2 3), c1 ((chN [s2, s3] l n : Nat) : Int), c1 (chL [s2, s3] l), c1 0, bxP 5 3 c, .cells [sl 6 0 n1 d1, sl 7 0 n2 d2, sl 8 0 n3 d3] 1 false true, .cells cs1 1 true own1, .cells cs2 1 true own2, .cells cs3 1 true own3, .cells [.func (.func 38) #[] #[]] 1 false true, bxR x y], W'⟩) := by
  have ha := ha2
  have f0 := fun l n W (h : InvW l n W) (hn : n ≤ 2) => l75_3_2 x y c n1 d1 n2 d2 n3 d3 s1 s2 s3 ha1 ha2 ha3 l n W h hn
  clear ha1 ha2 ha3
  generalize hs : s2 = s at *
  rcases hI with ⟨rfl, rfl, rfl⟩ | ⟨rfl, rfl, rfl⟩ | ⟨rfl, rfl⟩ | rfl
  · by_cases h0 : s = 0
    · subst h0
      have q1 : chL (0 :: [s3]) 0 = chL [s3] 0 := by simp [chL]
      have q2 : chN (0 :: [s3]) 0 0 = chN [s3] 0 0 := by simp [chN]
      obtain ⟨W', i1, i2, this⟩ := f0 0 0 [0] (.inr (.inl ⟨rfl, rfl, rfl⟩)) (by omega)
      have yy := y48z 0 ((0 : Nat) : Int)
      rw [q1, q2]
      refine ⟨W', i1, fun _ => i2 (.inr (by simp)), ?_⟩
      clear f0 q1 q2 i1 i2
      generalize chL [s3] _ = Z1 at *
      generalize chN [s3] _ _ = Z2 at *
      try simp only [cast1, Int.natCast_zero, Int.zero_add] at this
      try simp only [Int.natCast_zero, Int.zero_add] at yy
      try simp only [Int.natCast_zero]
      rw [lpB_eq]
      simp only [lp48] at ha yy this ⊢
      simp (maxSteps := 1000000) (disch := first | omega | decide | assumption | simp [scal]) [loadA_eq ia_76, lenA_sl lk_76, o_indexAddrS es_76, loadA_eq ia_71, loadA_eq ia_86, loadA_eq ia_24, ptrB, renB, ha, yy, addWr, ins, this, Int.natCast_zero]
    · skip
      have q1 : chL (s :: [s3]) 0 = chL [s3] s := by simp [chL, h0]
      have q2 : chN (s :: [s3]) 0 0 = chN [s3] s 0 := by simp [chN, h0]
      obtain ⟨W', i1, i2, this⟩ := f0 s 0 [0, 2] (.inr (.inr (.inl ⟨rfl, rfl⟩))) (by omega)
      have yy := y48b s 0 0 (by omega) h0 rfl
      rw [q1, q2]
      refine ⟨W', i1, fun _ => i2 (.inr (by simp)), ?_⟩
      clear f0 q1 q2 i1 i2
      generalize chL [s3] _ = Z1 at *
      generalize chN [s3] _ _ = Z2 at *
      try simp only [cast1, Int.natCast_zero, Int.zero_add] at this
      try simp only [Int.natCast_zero, Int.zero_add] at yy
      try simp only [Int.natCast_zero]
      rw [lpB_eq]
      simp only [lp48] at ha yy this ⊢
      simp (maxSteps := 1000000) (disch := first | omega | decide | assumption | simp [scal]) [loadA_eq ia_76, lenA_sl lk_76, o_indexAddrS es_76, loadA_eq ia_71, loadA_eq ia_86, loadA_eq ia_24, ptrB, renB, ha, yy, addWr, ins, this, Int.natCast_zero]
  · by_cases h0 : s = 0
    · subst h0
      have q1 : chL (0 :: [s3]) 0 = chL [s3] 0 := by simp [chL]
      have q2 : chN (0 :: [s3]) 0 0 = chN [s3] 0 0 := by simp [chN]
      obtain ⟨W', i1, i2, this⟩ := f0 0 0 [0] (.inr (.inl ⟨rfl, rfl, rfl⟩)) (by omega)
      have yy := y48z 0 ((0 : Nat) : Int)
      rw [q1, q2]
      refine ⟨W', i1, fun _ => i2 (.inr (by simp)), ?_⟩
      clear f0 q1 q2 i1 i2
      generalize chL [s3] _ = Z1 at *
      generalize chN [s3] _ _ = Z2 at *
      try simp only [cast1, Int.natCast_zero, Int.zero_add] at this
      try simp only [Int.natCast_zero, Int.zero_add] at yy
      try simp only [Int.natCast_zero]
      rw [lpB_eq]
      simp only [lp48] at ha yy this ⊢
      simp (maxSteps := 1000000) (disch := first | omega | decide | assumption | simp [scal]) [loadA_eq ia_76, lenA_sl lk_76, o_indexAddrS es_76, loadA_eq ia_71, loadA_eq ia_86, loadA_eq ia_24, ptrB, renB, ha, yy, addWr, ins, this, Int.natCast_zero]
    · skip
      have q1 : chL (s :: [s3]) 0 = chL [s3] s := by simp [chL, h0]
      have q2 : chN (s :: [s3]) 0 0 = chN [s3] s 0 := by simp [chN, h0]
      obtain ⟨W', i1, i2, this⟩ := f0 s 0 [0, 2] (.inr (.inr (.inl ⟨rfl, rfl⟩))) (by omega)
      have yy := y48b s 0 0 (by omega) h0 rfl
      rw [q1, q2]
      refine ⟨W', i1, fun _ => i2 (.inr (by simp)), ?_⟩
      clear f0 q1 q2 i1 i2
      generalize chL [s3] _ = Z1 at *
      generalize chN [s3] _ _ = Z2 at *
      try simp only [cast1, Int.natCast_zero, Int.zero_add] at this
      try simp only [Int.natCast_zero, Int.zero_add] at yy
      try simp only [Int.natCast_zero]
      rw [lpB_eq]
      simp only [lp48] at ha yy this ⊢
      simp (maxSteps := 1000000) (disch := first | omega | decide | assumption | simp [scal]) [loadA_eq ia_76, lenA_sl lk_76, o_indexAddrS es_76, loadA_eq ia_71, loadA_eq ia_86, loadA_eq ia_24, ptrB, renB, ha, yy, addWr, ins, this, Int.natCast_zero]
  · by_cases h0 : s = 0
    · subst h0
      have q1 : chL (0 :: [s3]) l = chL [s3] l := by simp [chL]
      have q2 : chN (0 :: [s3]) l 0 = chN [s3] l 0 := by simp [chN]
      obtain ⟨W', i1, i2, this⟩ := f0 l 0 [0, 2] (.inr (.inr (.inl ⟨rfl, rfl⟩))) (by omega)
      have yy := y48z l ((0 : Nat) : Int)
      rw [q1, q2]
      refine ⟨W', i1, fun _ => i2 (.inr (by simp)), ?_⟩
      clear f0 q1 q2 i1 i2
      generalize chL [s3] _ = Z1 at *
      generalize chN [s3] _ _ = Z2 at *
      try simp only [cast1, Int.natCast_zero, Int.zero_add] at this
      try simp only [Int.natCast_zero, Int.zero_add] at yy
      try simp only [Int.natCast_zero]
      rw [lpB_eq]
      simp only [lp48] at ha yy this ⊢
      simp (maxSteps := 1000000) (disch := first | omega | decide | assumption | simp [scal]) [loadA_eq ia_76, lenA_sl lk_76, o_indexAddrS es_76, loadA_eq ia_71, loadA_eq ia_86, loadA_eq ia_24, ptrB, renB, ha, yy, addWr, ins, this, Int.natCast_zero]
    · by_cases h1 : l = 0
      · subst h1
        have q1 : chL (s :: [s3]) 0 = chL [s3] s := by simp [chL, h0]
        have q2 : chN (s :: [s3]) 0 0 = chN [s3] s 0 := by simp [chN, h0]
        obtain ⟨W', i1, i2, this⟩ := f0 s 0 [0, 2] (.inr (.inr (.inl ⟨rfl, rfl⟩))) (by omega)
        have yy := y48b s 0 0 (by omega) h0 rfl
        rw [q1, q2]
        refine ⟨W', i1, fun _ => i2 (.inr (by simp)), ?_⟩
        clear f0 q1 q2 i1 i2
        generalize chL [s3] _ = Z1 at *
        generalize chN [s3] _ _ = Z2 at *
        try simp only [cast1, Int.natCast_zero, Int.zero_add] at this
        try simp only [Int.natCast_zero, Int.zero_add] at yy
        try simp only [Int.natCast_zero]
        rw [lpB_eq]
        simp only [lp48] at ha yy this ⊢
        simp (maxSteps := 1000000) (disch := first | omega | decide | assumption | simp [scal]) [loadA_eq ia_76, lenA_sl lk_76, o_indexAddrS es_76, loadA_eq ia_71, loadA_eq ia_86, loadA_eq ia_24, ptrB, renB, ha, yy, addWr, ins, this, Int.natCast_zero]
      · by_cases h2 : s = l
        · skip
          have q1 : chL (s :: [s3]) l = chL [s3] s := by simp [chL, h0, h1, h2]
          have q2 : chN (s :: [s3]) l 0 = chN [s3] s 0 := by simp [chN, h0, h1, h2]
          obtain ⟨W', i1, i2, this⟩ := f0 s 0 [0, 2] (.inr (.inr (.inl ⟨rfl, rfl⟩))) (by omega)
          have yy := y48c s l 0 (by omega) h0 h1 h2
          rw [q1, q2]
          refine ⟨W', i1, fun _ => i2 (.inr (by simp)), ?_⟩
          clear f0 q1 q2 i1 i2
          generalize chL [s3] _ = Z1 at *
          generalize chN [s3] _ _ = Z2 at *
          try simp only [cast1, Int.natCast_zero, Int.zero_add] at this
          try simp only [Int.natCast_zero, Int.zero_add] at yy
          try simp only [Int.natCast_zero]
          rw [lpB_eq]
          simp only [lp48] at ha yy this ⊢
          simp (maxSteps := 1000000) (disch := first | omega | decide | assumption | simp [scal]) [loadA_eq ia_76, lenA_sl lk_76, o_indexAddrS es_76, loadA_eq ia_71, loadA_eq ia_86, loadA_eq ia_24, ptrB, renB, ha, yy, addWr, ins, this, Int.natCast_zero]
        · skip
          have q1 : chL (s :: [s3]) l = chL [s3] s := by simp [chL, h0, h1, h2]
          have q2 : chN (s :: [s3]) l 0 = chN [s3] s (0 + 1) := by simp [chN, h0, h1, h2]
          obtain ⟨W', i1, i2, this⟩ := f0 s (0 + 1) [0, 2, 1] (.inr (.inr (.inr rfl))) (by omega)
          have yy := y48a s l 0 (by omega) h0 h1 h2
          rw [q1, q2]
          refine ⟨W', i1, fun _ => i2 (.inr (by simp)), ?_⟩
          clear f0 q1 q2 i1 i2
          generalize chL [s3] _ = Z1 at *
          generalize chN [s3] _ _ = Z2 at *
          try simp only [cast1, Int.natCast_zero, Int.zero_add] at this
          try simp only [Int.natCast_zero, Int.zero_add] at yy
          try simp only [Int.natCast_zero]
          rw [lpB_eq]
          simp only [lp48] at ha yy this ⊢
          simp (maxSteps := 1000000) (disch := first | omega | decide | assumption | simp [scal]) [loadA_eq ia_76, lenA_sl lk_76, o_indexAddrS es_76, loadA_eq ia_71, loadA_eq ia_86, loadA_eq ia_24, ptrB, renB, ha, yy, addWr, ins, this, Int.natCast_zero]
  · by_cases h0 : s = 0
    · subst h0
      have q1 : chL (0 :: [s3]) l = chL [s3] l := by simp [chL]
      have q2 : chN (0 :: [s3]) l n = chN [s3] l n := by simp [chN]
      obtain ⟨W', i1, i2, this⟩ := f0 l n [0, 2, 1] (.inr (.inr (.inr rfl))) (by omega)
      have yy := y48z l ((n : Nat) : Int)
      rw [q1, q2]
      refine ⟨W', i1, fun _ => i2 (.inr (by simp)), ?_⟩
      clear f0 q1 q2 i1 i2
      generalize chL [s3] _ = Z1 at *
      generalize chN [s3] _ _ = Z2 at *
      try simp only [cast1, Int.natCast_zero, Int.zero_add] at this
      try simp only [Int.natCast_zero, Int.zero_add] at yy
      try simp only [Int.natCast_zero]
      rw [lpB_eq]
      simp only [lp48] at ha yy this ⊢
      simp (maxSteps := 1000000) (disch := first | omega | decide | assumption | simp [scal]) [loadA_eq ia_76, lenA_sl lk_76, o_indexAddrS es_76, loadA_eq ia_71, loadA_eq ia_86, loadA_eq ia_24, ptrB, renB, ha, yy, addWr, ins, this]
    · by_cases h1 : l = 0
      · subst h1
        have q1 : chL (s :: [s3]) 0 = chL [s3] s := by simp [chL, h0]
        have q2 : chN (s :: [s3]) 0 n = chN [s3] s n := by simp [chN, h0]
        obtain ⟨W', i1, i2, this⟩ := f0 s n [0, 2, 1] (.inr (.inr (.inr rfl))) (by omega)
        have yy := y48b s 0 n (by omega) h0 rfl
        rw [q1, q2]
        refine ⟨W', i1, fun _ => i2 (.inr (by simp)), ?_⟩
        clear f0 q1 q2 i1 i2
        generalize chL [s3] _ = Z1 at *
        generalize chN [s3] _ _ = Z2 at *
        try simp only [cast1, Int.natCast_zero, Int.zero_add] at this
        try simp only [Int.natCast_zero, Int.zero_add] at yy
        try simp only [Int.natCast_zero]
        rw [lpB_eq]
        simp only [lp48] at ha yy this ⊢
        simp (maxSteps := 1000000) (disch := first | omega | decide | assumption | simp [scal]) [loadA_eq ia_76, lenA_sl lk_76, o_indexAddrS es_76, loadA_eq ia_71, loadA_eq ia_86, loadA_eq ia_24, ptrB, renB, ha, yy, addWr, ins, this]
      · by_cases h2 : s = l
        · skip
          have q1 : chL (s :: [s3]) l = chL [s3] s := by simp [chL, h0, h1, h2]
          have q2 : chN (s :: [s3]) l n = chN [s3] s n := by simp [chN, h0, h1, h2]
          obtain ⟨W', i1, i2, this⟩ := f0 s n [0, 2, 1] (.inr (.inr (.inr rfl))) (by omega)
          have yy := y48c s l n (by omega) h0 h1 h2
          rw [q1, q2]
          refine ⟨W', i1, fun _ => i2 (.inr (by simp)), ?_⟩
          clear f0 q1 q2 i1 i2
          generalize chL [s3] _ = Z1 at *
          generalize chN [s3] _ _ = Z2 at *
          try simp only [cast1, Int.natCast_zero, Int.zero_add] at this
          try simp only [Int.natCast_zero, Int.zero_add] at yy
          try simp only [Int.natCast_zero]
          rw [lpB_eq]
          simp only [lp48] at ha yy this ⊢
          simp (maxSteps := 1000000) (disch := first | omega | decide | assumption | simp [scal]) [loadA_eq ia_76, lenA_sl lk_76, o_indexAddrS es_76, loadA_eq ia_71, loadA_eq ia_86, loadA_eq ia_24, ptrB, renB, ha, yy, addWr, ins, this]
        · skip
          have q1 : chL (s :: [s3]) l = chL [s3] s := by simp [chL, h0, h1, h2]
          have q2 : chN (s :: [s3]) l n = chN [s3] s (n + 1) := by simp [chN, h0, h1, h2]
          obtain ⟨W', i1, i2, this⟩ := f0 s (n + 1) [0, 2, 1] (.inr (.inr (.inr rfl))) (by omega)
          have yy := y48a s l n (by omega) h0 h1 h2
          rw [q1, q2]
          refine ⟨W', i1, fun _ => i2 (.inr (by simp)), ?_⟩
          clear f0 q1 q2 i1 i2
          generalize chL [s3] _ = Z1 at *
          generalize chN [s3] _ _ = Z2 at *
          try simp only [cast1, Int.natCast_zero, Int.zero_add] at this
          try simp only [Int.natCast_zero, Int.zero_add] at yy
          try simp only [Int.natCast_zero]
          rw [lpB_eq]
          simp only [lp48] at ha yy this ⊢
          simp (maxSteps := 1000000) (disch := first | omega | decide | assumption | simp [scal]) [loadA_eq ia_76, lenA_sl lk_76, o_indexAddrS es_76, loadA_eq ia_71, loadA_eq ia_86, loadA_eq ia_24, ptrB, renB, ha, yy, addWr, ins, this]
theorem l75_3_0 (l : Int) (n : Nat) (W : List Nat) (hI : InvW l n W) (hn : n ≤ 0) : ∃ W', InvW (chL [s1, s2, s3] l) (chN [s1, s2, s3] l n) W' ∧ ((0 < 3 ∨ W ≠ []) → W' ≠ []) ∧
    lpB Try.prog LL ⟨75, 21, 11, none⟩ n75_3 n75_4 ⟨[(0, .func (.yield 0) #[] #[]), (2, pp 9), (3, pp 10), (7, sl 5 0 3 c), (8, iv 3), (9, iv 0)], [.loop (lp48 1 2 3), c1 ((n : Nat) : Int), c1 l, c1 0, bxP 5 3 c, .cells [sl 6 0 n1 d1, sl 7 0 n2 d2, sl 8 0 n3 d3] 1 false true, .cells cs1 1 true own1, .cells cs2 1 true own2, .cells cs3 1 true own3, .cells [.func (.func 38) #[] #[]] 1 false true, bxR x y], W⟩ =
      some (.exit 0, ⟨[], [.loop (lp48 1 2 3), c1 ((chN [s1, s2, s3] l n : Nat) : Int), c1 (chL [s1, s2, s3] l), c1 0, bxP 5 3 c, .cells [sl 6 0 n1 d1, sl 7 0 n2 d2, sl 8 0 n3 d3] 1 false true, .cells cs1 1 true own1, .cells cs2 1 true own2, .cells cs3 1 true own3, .cells [.func (.func 38) #[] #[]] 1 false true, bxR x y], W'⟩) := by
  have ha := ha1
  have f0 := fun l n W (h : InvW l n W) (hn : n ≤ 1) => l75_3_1 x y c n1 d1 n2 d2 n3 d3 s1 s2 s3 ha1 ha2 ha3 l n W h hn
  clear ha1 ha2 ha3
  generalize hs : s1 = s at *
  rcases hI with ⟨rfl, rfl, rfl⟩ | ⟨rfl, rfl, rfl⟩ | ⟨rfl, rfl⟩ | rfl
  · by_cases h0 : s = 0
    · subst h0
      have q1 : chL (0 :: [s2, s3]) 0 = chL [s2, s3] 0 := by simp [chL]
      have q2 : chN (0 :: [s2, s3]) 0 0 = chN [s2, s3] 0 0 := by simp [chN]
      obtain ⟨W', i1, i2, this⟩ := f0 0 0 [0] (.inr (.inl ⟨rfl, rfl, rfl⟩)) (by omega)
      have yy := y48z 0 ((0 : Nat) : Int)
      rw [q1, q2]
      refine ⟨W', i1, fun _ => i2 (.inr (by simp)), ?_⟩
      clear f0 q1 q2 i1 i2
      generalize chL [s2, s3] _ = Z1 at *
      generalize chN [s2, s3] _ _ = Z2 at *
      try simp only [cast1, Int.natCast_zero, Int.zero_add] at this
      try simp only [Int.natCast_zero, Int.zero_add] at yy
      try simp only [Int.natCast_zero]
      rw [lpB_eq]
      simp only [lp48] at ha yy this ⊢
      simp (maxSteps := 1000000) (disch := first | omega | decide | assumption | simp [scal]) [loadA_eq ia_76, lenA_sl lk_76, o_indexAddrS es_76, loadA_eq ia_71, loadA_eq ia_86, loadA_eq ia_24, ptrB, renB, ha, yy, addWr, ins, this, Int.natCast_zero]
    · skip
      have q1 : chL (s :: [s2, s3]) 0 = chL [s2, s3] s := by simp [chL, h0]
      have q2 : chN (s :: [s2, s3]) 0 0 = chN [s2, s3] s 0 := by simp [chN, h0]
      obtain ⟨W', i1, i2, this⟩ := f0 s 0 [0, 2] (.inr (.inr (.inl ⟨rfl, rfl⟩))) (by omega)
      have yy := y48b s 0 0 (by omega) h0 rfl
      rw [q1, q2]
      refine ⟨W', i1, fun _ => i2 (.inr (by simp)), ?_⟩
      clear f0 q1 q2 i1 i2
      generalize chL [s2, s3] _ = Z1 at *
      generalize chN [s2, s3] _ _ = Z2 at *
      try simp only [cast1, Int.natCast_zero, Int.zero_add] at this
      try simp only [Int.natCast_zero, Int.zero_add] at yy
      try simp only [Int.natCast_zero]
      rw [lpB_eq]
      simp only [lp48] at ha yy this ⊢
      simp (maxSteps := 1000000) (disch := first | omega | decide | assumption | simp [scal]) [loadA_eq ia_76, lenA_sl lk_76, o_indexAddrS es_76, loadA_eq ia_71, loadA_eq ia_86, loadA_eq ia_24, ptrB, renB, ha, yy, addWr, ins, this, Int.natCast_zero]
  · by_cases h0 : s = 0
    · subst h0
      have q1 : chL (0 :: [s2, s3]) 0 = chL [s2, s3] 0 := by simp [chL]
      have q2 : chN (0 :: [s2, s3]) 0 0 = chN [s2, s3] 0 0 := by simp [chN]
      obtain ⟨W', i1, i2, this⟩ := f0 0 0 [0] (.inr (.inl ⟨rfl, rfl, rfl⟩)) (by omega)
      have yy := y48z 0 ((0 : Nat) : Int)
      rw [q1, q2]
      refine ⟨W', i1, fun _ => i2 (.inr (by simp)), ?_⟩
      clear f0 q1 q2 i1 i2
      generalize chL [s2, s3] _ = Z1 at *
      generalize chN [s2, s3] _ _ = Z2 at *
      try simp only [cast1, Int.natCast_zero, Int.zero_add] at this
      try simp only [Int.natCast_zero, Int.zero_add] at yy
      try simp only [Int.natCast_zero]
      rw [lpB_eq]
      simp only [lp48] at ha yy this ⊢
      simp (maxSteps := 1000000) (disch := first | omega | decide | assumption | simp [scal]) [loadA_eq ia_76, lenA_sl lk_76, o_indexAddrS es_76, loadA_eq ia_71, loadA_eq ia_86, loadA_eq ia_24, ptrB, renB, ha, yy, addWr, ins, this, Int.natCast_zero]
    · skip
      have q1 : chL (s :: [s2, s3]) 0 = chL [s2, s3] s := by simp [chL, h0]
      have q2 : chN (s :: [s2, s3]) 0 0 = chN [s2, s3] s 0 := by simp [chN, h0]
      obtain ⟨W', i1, i2, this⟩ := f0 s 0 [0, 2] (.inr (.inr (.inl ⟨rfl, rfl⟩))) (by omega)
      have yy := y48b s 0 0 (by omega) h0 rfl
      rw [q1, q2]
      refine ⟨W', i1, fun _ => i2 (.inr (by simp)), ?_⟩
      clear f0 q1 q2 i1 i2
      generalize chL [s2, s3] _ = Z1 at *
      generalize chN [s2, s3] _ _ = Z2 at *
      try simp only [cast1, Int.natCast_zero, Int.zero_add] at this
      try simp only [Int.natCast_zero, Int.zero_add] at yy
      try simp only [Int.natCast_zero]
      rw [lpB_eq]
      simp only [lp48] at ha yy this ⊢
      simp (maxSteps := 1000000) (disch := first | omega | decide | assumption | simp [scal]) [loadA_eq ia_76, lenA_sl lk_76, o_indexAddrS es_76, loadA_eq ia_71, loadA_eq ia_86, loadA_eq ia_24, ptrB, renB, ha, yy, addWr, ins, this, Int.natCast_zero]
  · by_cases h0 : s = 0
    · subst h0
      have q1 : chL (0 :: [s2, s3]) l = chL [s2, s3] l := by simp [chL]
      have q2 : chN (0 :: [s2, s3]) l 0 = chN [s2, s3] l 0 := by simp [chN]
      obtain ⟨W', i1, i2, this⟩ := f0 l 0 [0, 2] (.inr (.inr (.inl ⟨rfl, rfl⟩))) (by omega)
      have yy := y48z l ((0 : Nat) : Int)
      rw [q1, q2]
      refine ⟨W', i1, fun _ => i2 (.inr (by simp)), ?_⟩
      clear f0 q1 q2 i1 i2
      generalize chL [s2, s3] _ = Z1 at *
      generalize chN [s2, s3] _ _ = Z2 at *
      try simp only [cast1, Int.natCast_zero, Int.zero_add] at this
      try simp only [Int.natCast_zero, Int.zero_add] at yy
      try simp only [Int.natCast_zero]
      rw [lpB_eq]
      simp only [lp48] at ha yy this ⊢
      simp (maxSteps := 1000000) (disch := first | omega | decide | assumption | simp [scal]) [loadA_eq ia_76, lenA_sl lk_76, o_indexAddrS es_76, loadA_eq ia_71, loadA_eq ia_86, loadA_eq ia_24, ptrB, renB, ha, yy, addWr, ins, this, Int.natCast_zero]
    · by_cases h1 : l = 0
      · subst h1
        have q1 : chL (s :: [s2, s3]) 0 = chL [s2, s3] s := by simp [chL, h0]
        have q2 : chN (s :: [s2, s3]) 0 0 = chN [s2, s3] s 0 := by simp [chN, h0]
        obtain ⟨W', i1, i2, this⟩ := f0 s 0 [0, 2] (.inr (.inr (.inl ⟨rfl, rfl⟩))) (by omega)
        have yy := y48b s 0 0 (by omega) h0 rfl
        rw [q1, q2]
        refine ⟨W', i1, fun _ => i2 (.inr (by simp)), ?_⟩
        clear f0 q1 q2 i1 i2
        generalize chL [s2, s3] _ = Z1 at *
        generalize chN [s2, s3] _ _ = Z2 at *
        try simp only [cast1, Int.natCast_zero, Int.zero_add] at this
        try simp only [Int.natCast_zero, Int.zero_add] at yy
        try simp only [Int.natCast_zero]
        rw [lpB_eq]
        simp only [lp48] at ha yy this ⊢
        simp (maxSteps := 1000000) (disch := first | omega | decide | assumption | simp [scal]) [loadA_eq ia_76, lenA_sl lk_76, o_indexAddrS es_76, loadA_eq ia_71, loadA_eq ia_86, loadA_eq ia_24, ptrB, renB, ha, yy, addWr, ins, this, Int.natCast_zero]
      · by_cases h2 : s = l
        · skip
          have q1 : chL (s :: [s2, s3]) l = chL [s2, s3] s := by simp [chL, h0, h1, h2]
          have q2 : chN (s :: [s2, s3]) l 0 = chN [s2, s3] s 0 := by simp [chN, h0, h1, h2]
          obtain ⟨W', i1, i2, this⟩ := f0 s 0 [0, 2] (.inr (.inr (.inl ⟨rfl, rfl⟩))) (by omega)
          have yy := y48c s l 0 (by omega) h0 h1 h2
          rw [q1, q2]
          refine ⟨W', i1, fun _ => i2 (.inr (by simp)), ?_⟩
          clear f0 q1 q2 i1 i2
          generalize chL [s2, s3] _ = Z1 at *
          generalize chN [s2, s3] _ _ = Z2 at *
          try simp only [cast1, Int.natCast_zero, Int.zero_add] at this
          try simp only [Int.natCast_zero, Int.zero_add] at yy
          try simp only [Int.natCast_zero]
          rw [lpB_eq]
          simp only [lp48] at ha yy this ⊢
          simp (maxSteps := 1000000) (disch := first | omega | decide | assumption | simp [scal]) [loadA_eq ia_76, lenA_sl lk_76, o_indexAddrS es_76, loadA_eq ia_71, loadA_eq ia_86, loadA_eq ia_24, ptrB, renB, ha, yy, addWr, ins, this, Int.natCast_zero]
        · skip
          have q1 : chL (s :: [s2, s3]) l = chL [s2, s3] s := by simp [chL, h0, h1, h2]
          have q2 : chN (s :: [s2, s3]) l 0 = chN [s2, s3] s (0 + 1) := by simp [chN, h0, h1, h2]
          obtain ⟨W', i1, i2, this⟩ := f0 s (0 + 1) [0, 2, 1] (.inr (.inr (.inr rfl))) (by omega)
          have yy := y48a s l 0 (by omega) h0 h1 h2
          rw [q1, q2]
          refine ⟨W', i1, fun _ => i2 (.inr (by simp)), ?_⟩
          clear f0 q1 q2 i1 i2
          generalize chL [s2, s3] _ = Z1 at *
          generalize chN [s2, s3] _ _ = Z2 at *
          try simp only [cast1, Int.natCast_zero, Int.zero_add] at this
          try simp only [Int.natCast_zero, Int.zero_add] at yy
          try simp only [Int.natCast_zero]
          rw [lpB_eq]
          simp only [lp48] at ha yy this ⊢
          simp (maxSteps := 1000000) (disch := first | omega | decide | assumption | simp [scal]) [loadA_eq ia_76, lenA_sl lk_76, o_indexAddrS es_76, loadA_eq ia_71, loadA_eq ia_86, loadA_eq ia_24, ptrB, renB, ha, yy, addWr, ins, this, Int.natCast_zero]
  · by_cases h0 : s = 0
    · subst h0
      have q1 : chL (0 :: [s2, s3]) l = chL [s2, s3] l := by simp [chL]
      have q2 : chN (0 :: [s2, s3]) l n = chN [s2, s3] l n := by simp [chN]
      obtain ⟨W', i1, i2, this⟩ := f0 l n [0, 2, 1] (.inr (.inr (.inr rfl))) (by omega)
      have yy := y48z l ((n : Nat) : Int)
      rw [q1, q2]
      refine ⟨W', i1, fun _ => i2 (.inr (by simp)), ?_⟩
      clear f0 q1 q2 i1 i2
      generalize chL [s2, s3] _ = Z1 at *
      generalize chN [s2, s3] _ _ = Z2 at *
      try simp only [cast1, Int.natCast_zero, Int.zero_add] at this
      try simp only [Int.natCast_zero, Int.zero_add] at yy
      try simp only [Int.natCast_zero]
      rw [lpB_eq]
      simp only [lp48] at ha yy this ⊢
      simp (maxSteps := 1000000) (disch := first | omega | decide | assumption | simp [scal]) [loadA_eq ia_76, lenA_sl lk_76, o_indexAddrS es_76, loadA_eq ia_71, loadA_eq ia_86, loadA_eq ia_24, ptrB, renB, ha, yy, addWr, ins, this]
    · by_cases h1 : l = 0
      · subst h1
        have q1 : chL (s :: [s2, s3]) 0 = chL [s2, s3] s := by simp [chL, h0]
        have q2 : chN (s :: [s2, s3]) 0 n = chN [s2, s3] s n := by simp [chN, h0]
        obtain ⟨W', i1, i2, this⟩ := f0 s n [0, 2, 1] (.inr (.inr (.inr rfl))) (by omega)
        have yy := y48b s 0 n (by omega) h0 rfl
        rw [q1, q2]
        refine ⟨W', i1, fun _ => i2 (.inr (by simp)), ?_⟩
        clear f0 q1 q2 i1 i2
        generalize chL [s2, s3] _ = Z1 at *
        generalize chN [s2, s3] _ _ = Z2 at *
        try simp only [cast1, Int.natCast_zero, Int.zero_add] at this
        try simp only [Int.natCast_zero, Int.zero_add] at yy
        try simp only [Int.natCast_zero]
        rw [lpB_eq]
        simp only [lp48] at ha yy this ⊢
        simp (maxSteps := 1000000) (disch := first | omega | decide | assumption | simp [scal]) [loadA_eq ia_76, lenA_sl lk_76, o_indexAddrS es_76, loadA_eq ia_71, loadA_eq ia_86, loadA_eq ia_24, ptrB, renB, ha, yy, addWr, ins, this]
      · by_cases h2 : s = l
        · skip
          have q1 : chL (s :: [s2, s3]) l = chL [s2, s3] s := by simp [chL, h0, h1, h2]
          have q2 : chN (s :: [s2, s3]) l n = chN [s2, s3] s n := by simp [chN, h0, h1, h2]
          obtain ⟨W', i1, i2, this⟩ := f0 s n [0, 2, 1] (.inr (.inr (.inr rfl))) (by omega)
          have yy := y48c s l n (by omega) h0 h1 h2
          rw [q1, q2]
          refine ⟨W', i1, fun _ => i2 (.inr (by simp)), ?_⟩
          clear f0 q1 q2 i1 i2
          generalize chL [s2, s3] _ = Z1 at *
          generalize chN [s2, s3] _ _ = Z2 at *
          try simp only [cast1, Int.natCast_zero, Int.zero_add] at this
          try simp only [Int.natCast_zero, Int.zero_add] at yy
          try simp only [Int.natCast_zero]
          rw [lpB_eq]
          simp only [lp48] at ha yy this ⊢
          simp (maxSteps := 1000000) (disch := first | omega | decide | assumption | simp [scal]) [loadA_eq ia_76, lenA_sl lk_76, o_indexAddrS es_76, loadA_eq ia_71, loadA_eq ia_86, loadA_eq ia_24, ptrB, renB, ha, yy, addWr, ins, this]
        · skip
          have q1 : chL (s :: [s2, s3]) l = chL [s2, s3] s := by simp [chL, h0, h1, h2]
          have q2 : chN (s :: [s2, s3]) l n = chN [s2, s3] s (n + 1) := by simp [chN, h0, h1, h2]
          obtain ⟨W', i1, i2, this⟩ := f0 s (n + 1) [0, 2, 1] (.inr (.inr (.inr rfl))) (by omega)
          have yy := y48a s l n (by omega) h0 h1 h2
          rw [q1, q2]
          refine ⟨W', i1, fun _ => i2 (.inr (by simp)), ?_⟩
          clear f0 q1 q2 i1 i2
          generalize chL [s2, s3] _ = Z1 at *
          generalize chN [s2, s3] _ _ = Z2 at *
          try simp only [cast1, Int.natCast_zero, Int.zero_add] at this
          try simp only [Int.natCast_zero, Int.zero_add] at yy
          try simp only [Int.natCast_zero]
          rw [lpB_eq]
          simp only [lp48] at ha yy this ⊢
          simp (maxSteps := 1000000) (disch := first | omega | decide | assumption | simp [scal]) [loadA_eq ia_76, lenA_sl lk_76, o_indexAddrS es_76, loadA_eq ia_71, loadA_eq ia_86, loadA_eq ia_24, ptrB, renB, ha, yy, addWr, ins, this]
theorem c75_3 : ∃ ws, ((ws = [(0, .loop (lp48 1 2 3))] ∧ chL [s1, s2, s3] 0 = 0 ∧ chN [s1, s2, s3] 0 0 = 0) ∨ (ws = [(0, .loop (lp48 1 2 3)), (2, c1 (chL [s1, s2, s3] 0))] ∧ chN [s1, s2, s3] 0 0 = 0) ∨ ws = [(0, .loop (lp48 1 2 3)), (2, c1 (chL [s1, s2, s3] 0)), (1, c1 ((chN [s1, s2, s3] 0 0 : Nat) : Int))]) ∧
    LL.run 75 [.func (.yield 0) #[] #[], pp 4, pp 9, pp 10] [.loop (lp48 1 2 3), c1 0, c1 0, c1 0, bxP 5 3 c, .cells [sl 6 0 n1 d1, sl 7 0 n2 d2, sl 8 0 n3 d3] 1 false true, .cells cs1 1 true own1, .cells cs2 1 true own2, .cells cs3 1 true own3, .cells [.func (.func 38) #[] #[]] 1 false true, bxR x y] = some ⟨.tuple #[], [], ws⟩ := by
  obtain ⟨W', i1, i2, this⟩ := l75_3_0 x y c n1 d1 n2 d2 n3 d3 s1 s2 s3 ha1 ha2 ha3 0 0 [] (.inl ⟨rfl, rfl, rfl⟩) (Nat.le_refl _)
  have i2 := i2 (.inl (by omega))
  simp only [Int.natCast_zero] at this
  clear ha1 ha2 ha3
  generalize chL [s1, s2, s3] 0 = Z1 at *
  generalize chN [s1, s2, s3] 0 0 = Z2 at *
  rcases i1 with ⟨rfl, rfl, rfl⟩ | ⟨rfl, rfl, rfl⟩ | ⟨rfl, rfl⟩ | rfl
  · exact absurd rfl i2
  · refine ⟨_, .inl ⟨rfl, rfl, rfl⟩, go (by decide) ?_⟩
    rw [run75 _ _ _ (by simp)]
    simp only [lp48] at this ⊢
    simp (maxSteps := 1000000) (disch := first | omega | decide | assumption | simp [scal]) [loadA_eq ia_76, lenA_sl lk_76, o_indexAddrS es_76, loadA_eq ia_71, loadA_eq ia_86, loadA_eq ia_24, ptrB, renB, this, endS_normal]
  · refine ⟨_, .inr (.inl ⟨rfl, rfl⟩), go (by decide) ?_⟩
    rw [run75 _ _ _ (by simp)]
    simp only [lp48] at this ⊢
    simp (maxSteps := 1000000) (disch := first | omega | decide | assumption | simp [scal]) [loadA_eq ia_76, lenA_sl lk_76, o_indexAddrS es_76, loadA_eq ia_71, loadA_eq ia_86, loadA_eq ia_24, ptrB, renB, this, endS_normal]
  · refine ⟨_, .inr (.inr rfl), go (by decide) ?_⟩
    rw [run75 _ _ _ (by simp)]
    simp only [lp48] at this ⊢
    simp (maxSteps := 1000000) (disch := first | omega | decide | assumption | simp [scal]) [loadA_eq ia_76, lenA_sl lk_76, o_indexAddrS es_76, loadA_eq ia_71, loadA_eq ia_86, loadA_eq ia_24, ptrB, renB, this, endS_normal]
theorem h75_3 : ∃ W, (W = [10] ∨ W = [10, 8] ∨ W = [10, 8, 9]) ∧
    callH LL 75 [.func (.yield 10) #[] #[], pp 0, pp 5, pp 6] [bxP 1 3 c, .cells [sl 2 0 n1 d1, sl 3 0 n2 d2, sl 4 0 n3 d3] 1 false true, .cells cs1 1 true own1, .cells cs2 1 true own2, .cells cs3 1 true own3, .cells [.func (.func 38) #[] #[]] 1 false true, bxR x y, c1 0, c1 0, c1 0, .loop (lp48 9 8 7)] = some ⟨.tuple #[], [bxP 1 3 c, .cells [sl 2 0 n1 d1, sl 3 0 n2 d2, sl 4 0 n3 d3] 1 false true, .cells cs1 1 true own1, .cells cs2 1 true own2, .cells cs3 1 true own3, .cells [.func (.func 38) #[] #[]] 1 false true, bxR x y, c1 0, c1 (chL [s1, s2, s3] 0), c1 ((chN [s1, s2, s3] 0 0 : Nat) : Int), .loop (lp48 9 8 7)], [10, 9, 8, 7, 0, 1, 2, 3, 4, 5, 6], W⟩ := by
  obtain ⟨ws, hw, e⟩ := c75_3 x y c n1 d1 n2 d2 n3 d3 s1 s2 s3 ha1 ha2 ha3
  clear ha1 ha2 ha3
  have hm : ∀ q : Nat, 30 < q → reach [bxP 1 3 c, .cells [sl 2 0 n1 d1, sl 3 0 n2 d2, sl 4 0 n3 d3] 1 false true, .cells cs1 1 true own1, .cells cs2 1 true own2, .cells cs3 1 true own3, .cells [.func (.func 38) #[] #[]] 1 false true, bxR x y, c1 0, c1 0, c1 0, .loop (lp48 9 8 7)] 0 q [10, 0, 5, 6] [] = [10, 9, 8, 7, 0, 1, 2, 3, 4, 5, 6] := by
    intro q hq
    obtain ⟨q, rfl⟩ : ∃ j, q = j + 30 := ⟨q - 30, by omega⟩
    simp [reach_cons, reachC_t, reachC_f, reach_nil, rootsB, GE.mem, nblt, nbeq, ptrB, lp48, ptrT, ptrV_ptr, ptrV_sl, ptrV_int, dep]
  have hpp : ([.func (.yield 10) #[] #[], pp 0, pp 5, pp 6] : List Value).flatMap (ptrV dep) = [10, 0, 5, 6] := rfl
  generalize chL [s1, s2, s3] 0 = Z1 at *
  generalize chN [s1, s2, s3] 0 0 = Z2 at *
  rcases hw with ⟨rfl, rfl, rfl⟩ | ⟨rfl, rfl⟩ | rfl
  · refine ⟨_, .inl rfl, callH_of (by intro _; first | trivial | rfl) ?_ (by simp)⟩
    unfold callH0
    simp only [hpp, hm reachN (by decide)]
    simp only [lp48] at e ⊢
    simp [optAll, renV_func, renFn, renL, renV_ptr, dep, idx, nbeq, renB, renT, renL_eq, renV_int, renV_sl, e, mergeB, renV_tuple, nblt]
  · refine ⟨_, .inr (.inl rfl), callH_of (by intro _; first | trivial | rfl) ?_ (by simp)⟩
    unfold callH0
    simp only [hpp, hm reachN (by decide)]
    simp only [lp48] at e ⊢
    simp [optAll, renV_func, renFn, renL, renV_ptr, dep, idx, nbeq, renB, renT, renL_eq, renV_int, renV_sl, e, mergeB, renV_tuple, nblt]
  · refine ⟨_, .inr (.inr rfl), callH_of (by intro _; first | trivial | rfl) ?_ (by simp)⟩
    unfold callH0
    simp only [hpp, hm reachN (by decide)]
    simp only [lp48] at e ⊢
    simp [optAll, renV_func, renFn, renL, renV_ptr, dep, idx, nbeq, renB, renT, renL_eq, renV_int, renV_sl, e, mergeB, renV_tuple, nblt]
theorem r48_3 : LL.run 48 [.func (.func 75) #[] #[pp 0, pp 5, pp 6]] [bxP 1 3 c, .cells [sl 2 0 n1 d1, sl 3 0 n2 d2, sl 4 0 n3 d3] 1 false true, .cells cs1 1 true own1, .cells cs2 1 true own2, .cells cs3 1 true own3, .cells [.func (.func 38) #[] #[]] 1 false true, bxR x y] = some ⟨iv (chN [s1, s2, s3] 0 0 : Nat), [], []⟩ := by
  obtain ⟨W, hW, e⟩ := h75_3 x y c n1 d1 n2 d2 n3 d3 s1 s2 s3 ha1 ha2 ha3
  clear ha1 ha2 ha3
  generalize chL [s1, s2, s3] 0 = Z1 at *
  generalize chN [s1, s2, s3] 0 0 = Z2 at *
  refine go (by decide) ?_
  simp only [lp48] at e
  rw [run48 _ _ _ (by simp)]
  simp (maxSteps := 1000000) (disch := first | omega | decide | assumption | simp [scal]) [za_3, sz_3, loadA_eq ia_3, want_some q48_21g3]
  rw [range_step n48_10e n48_10k rfl]
  rcases hW with rfl | rfl | rfl
  all_goals
    simp (maxSteps := 1000000) (disch := first | omega | decide | assumption | simp [scal]) [za_3, sz_3, loadA_eq ia_3, want_some q48_21g3, e]
    rw [rangeE_ready rfl rfl rfl]
    simp (maxSteps := 1000000) (disch := first | omega | decide | assumption | simp [scal]) [za_3, sz_3, loadA_eq ia_3, want_some q48_21g3, addWr]
end
section
variable (c d1 d2 d3 : Nat) {cs1 cs2 cs3 : List Value} {own1 own2 own3 : Bool} {p1 p2 p3 : List Int} (hp1 : PoC cs1 p1) (h01 : 0 < p1.length) (h61 : p1.length ≤ 60) (hp2 : PoC cs2 p2) (h02 : 0 < p2.length) (h62 : p2.length ≤ 60) (hp3 : PoC cs3 p3) (h03 : 0 < p3.length) (h63 : p3.length ≤ 60)
include hp1 h01 h61 hp2 h02 h62 hp3 h03 h63
theorem k48_3 (z1 z2 : Blk) (x y : Int) (hb1 : evB x y p1.reverse 0 1 = true) (hb2 : evB x y p2.reverse 0 1 = true) (hb3 : evB x y p3.reverse 0 1 = true) (rest : List Blk) : callH LL 48 [.func (.func 75) #[] #[pp 6, pp 7, pp 8]] (.cells [sl 1 0 p1.length d1, sl 2 0 p2.length d2, sl 3 0 p3.length d3] 1 false true :: .cells cs1 1 true own1 :: .cells cs2 1 true own2 :: .cells cs3 1 true own3 :: z1 :: z2 :: bxP 0 3 c :: .cells [.func (.func 38) #[] #[]] 1 false true :: bxR x y :: rest) =
    some ⟨iv (chN [sgP p1 x y, sgP p2 x y, sgP p3 x y] 0 0 : Nat), .cells [sl 1 0 p1.length d1, sl 2 0 p2.length d2, sl 3 0 p3.length d3] 1 false true :: .cells cs1 1 true own1 :: .cells cs2 1 true own2 :: .cells cs3 1 true own3 :: z1 :: z2 :: bxP 0 3 c :: .cells [.func (.func 38) #[] #[]] 1 false true :: bxR x y :: rest, [6, 0, 1, 2, 3, 7, 8], []⟩ := by
  have e := r48_3 x y c p1.length d1 p2.length d2 p3.length d3 (cs1 := cs1) (sgP p1 x y) (sgP p2 x y) (sgP p3 x y) (own1 := own1) (own2 := own2) (own3 := own3) (fun l n => k38 6 d1 rfl hp1 h01 h61 x y hb1) (fun l n => k38 7 d2 rfl hp2 h02 h62 x y hb2) (fun l n => k38 8 d3 rfl hp3 h03 h63 x y hb3)
  generalize chN _ 0 0 = Z2 at *
  have hm : ∀ q : Nat, 30 < q → reach (.cells [sl 1 0 p1.length d1, sl 2 0 p2.length d2, sl 3 0 p3.length d3] 1 false true :: .cells cs1 1 true own1 :: .cells cs2 1 true own2 :: .cells cs3 1 true own3 :: z1 :: z2 :: bxP 0 3 c :: .cells [.func (.func 38) #[] #[]] 1 false true :: bxR x y :: rest) 0 q [6, 7, 8] [] = [6, 0, 1, 2, 3, 7, 8] := by
    intro q hq
    obtain ⟨q, rfl⟩ : ∃ j, q = j + 30 := ⟨q - 30, by omega⟩
    simp [reach_cons, reachC_t, reachC_f, reach_nil, rootsB, GE.mem, nblt, nbeq, ptrB, ptrT, ptrV_ptr, ptrV_sl, ptrV_int, ptrV_func, ptrFn, ptrL, dep]
  have hpp : ([.func (.func 75) #[] #[pp 6, pp 7, pp 8]] : List Value).flatMap (ptrV dep) = [6, 7, 8] := rfl
  refine callH_of (by intro _; first | trivial | rfl) ?_ (by simp)
  unfold callH0
  simp only [hpp, hm reachN (by decide)]
  simp [optAll, renV_func, renFn, renL, renV_ptr, dep, idx, nbeq, renB, renT, renL_eq, renV_int, renV_sl, e, mergeB, renV_tuple, nblt]
theorem k48b_3 (z1 z2 z3 z4 z5 : Blk) (x y : Int) (hb1 : evB x y p1.reverse 0 1 = true) (hb2 : evB x y p2.reverse 0 1 = true) (hb3 : evB x y p3.reverse 0 1 = true) (rest : List Blk) : callH LL 48 [.func (.func 75) #[] #[pp 9, pp 10, pp 11]] (.cells [sl 1 0 p1.length d1, sl 2 0 p2.length d2, sl 3 0 p3.length d3] 1 false true :: .cells cs1 1 true own1 :: .cells cs2 1 true own2 :: .cells cs3 1 true own3 :: z1 :: z2 :: z3 :: z4 :: z5 :: bxP 0 3 c :: .cells [.func (.func 38) #[] #[]] 1 false true :: bxR x y :: rest) =
    some ⟨iv (chN [sgP p1 x y, sgP p2 x y, sgP p3 x y] 0 0 : Nat), .cells [sl 1 0 p1.length d1, sl 2 0 p2.length d2, sl 3 0 p3.length d3] 1 false true :: .cells cs1 1 true own1 :: .cells cs2 1 true own2 :: .cells cs3 1 true own3 :: z1 :: z2 :: z3 :: z4 :: z5 :: bxP 0 3 c :: .cells [.func (.func 38) #[] #[]] 1 false true :: bxR x y :: rest, [9, 0, 1, 2, 3, 10, 11], []⟩ := by
  have e := r48_3 x y c p1.length d1 p2.length d2 p3.length d3 (cs1 := cs1) (sgP p1 x y) (sgP p2 x y) (sgP p3 x y) (own1 := own1) (own2 := own2) (own3 := own3) (fun l n => k38 6 d1 rfl hp1 h01 h61 x y hb1) (fun l n => k38 7 d2 rfl hp2 h02 h62 x y hb2) (fun l n => k38 8 d3 rfl hp3 h03 h63 x y hb3)
  generalize chN _ 0 0 = Z2 at *
  have hm : ∀ q : Nat, 30 < q → reach (.cells [sl 1 0 p1.length d1, sl 2 0 p2.length d2, sl 3 0 p3.length d3] 1 false true :: .cells cs1 1 true own1 :: .cells cs2 1 true own2 :: .cells cs3 1 true own3 :: z1 :: z2 :: z3 :: z4 :: z5 :: bxP 0 3 c :: .cells [.func (.func 38) #[] #[]] 1 false true :: bxR x y :: rest) 0 q [9, 10, 11] [] = [9, 0, 1, 2, 3, 10, 11] := by
    intro q hq
    obtain ⟨q, rfl⟩ : ∃ j, q = j + 30 := ⟨q - 30, by omega⟩
    simp [reach_cons, reachC_t, reachC_f, reach_nil, rootsB, GE.mem, nblt, nbeq, ptrB, ptrT, ptrV_ptr, ptrV_sl, ptrV_int, ptrV_func, ptrFn, ptrL, dep]
  have hpp : ([.func (.func 75) #[] #[pp 9, pp 10, pp 11]] : List Value).flatMap (ptrV dep) = [9, 10, 11] := rfl
  refine callH_of (by intro _; first | trivial | rfl) ?_ (by simp)
  unfold callH0
  simp only [hpp, hm reachN (by decide)]
  simp [optAll, renV_func, renFn, renL, renV_ptr, dep, idx, nbeq, renB, renT, renL_eq, renV_int, renV_sl, e, mergeB, renV_tuple, nblt]
theorem k49_3 (x y : Int) (rest : List Blk) : callH LL 49 [sl 0 0 3 c, .agg #[iv x, iv y], .func (.func 38) #[] #[]] (.cells [sl 1 0 p1.length d1, sl 2 0 p2.length d2, sl 3 0 p3.length d3] 1 false true :: .cells cs1 1 true own1 :: .cells cs2 1 true own2 :: .cells cs3 1 true own3 :: rest) =
    some ⟨.func (.func 75) #[] #[pp (rest.length + 4), pp (rest.length + 5), pp (rest.length + 6)], .cells [sl 1 0 p1.length d1, sl 2 0 p2.length d2, sl 3 0 p3.length d3] 1 false true :: .cells cs1 1 true own1 :: .cells cs2 1 true own2 :: .cells cs3 1 true own3 :: (rest ++ [bxP 0 3 c, .cells [.func (.func 38) #[] #[]] 1 false true, bxR x y]), [0, 1, 2, 3], []⟩ := by
  have e : LL.run 49 [sl 0 0 3 c, .agg #[iv x, iv y], .func (.func 38) #[] #[]] [.cells [sl 1 0 p1.length d1, sl 2 0 p2.length d2, sl 3 0 p3.length d3] 1 false true, .cells cs1 1 true own1, .cells cs2 1 true own2, .cells cs3 1 true own3] = some ⟨.func (.func 75) #[] #[pp 4, pp 5, pp 6], [bxP 0 3 c, .cells [.func (.func 38) #[] #[]] 1 false true, bxR x y], []⟩ := by
    refine go (by decide) ?_
    rw [run49 _ _ _ (by simp)]
    simp (maxSteps := 1000000) (disch := first | omega | decide | assumption | simp [scal])
  have hm : ∀ q : Nat, 30 < q → reach (.cells [sl 1 0 p1.length d1, sl 2 0 p2.length d2, sl 3 0 p3.length d3] 1 false true :: .cells cs1 1 true own1 :: .cells cs2 1 true own2 :: .cells cs3 1 true own3 :: rest) 0 q [0] [] = [0, 1, 2, 3] := by
    intro q hq
    obtain ⟨q, rfl⟩ : ∃ j, q = j + 30 := ⟨q - 30, by omega⟩
    simp [reach_cons, reachC_t, reachC_f, reach_nil, rootsB, GE.mem, nblt, nbeq, ptrB, ptrT, ptrV_ptr, ptrV_sl, ptrV_int, ptrV_func, ptrFn, ptrL, dep]
  have hpp : ([sl 0 0 3 c, .agg #[iv x, iv y], .func (.func 38) #[] #[]] : List Value).flatMap (ptrV dep) = [0] := rfl
  refine callH_of (by intro _; first | trivial | rfl) ?_ (by simp)
  unfold callH0
  simp only [hpp, hm reachN (by decide)]
  simp [optAll, renV_func, renFn, renL, renV_ptr, renV_agg, dep, idx, nbeq, renB, renT, renL_eq, renV_int, renV_sl, e, mergeB, renV_tuple, nblt]
theorem r52_3 (x y u v : Int) (hb1 : evB x y p1.reverse 0 1 = true) (hb2 : evB x y p2.reverse 0 1 = true) (hb3 : evB x y p3.reverse 0 1 = true) (hb1b : evB u v p1.reverse 0 1 = true) (hb2b : evB u v p2.reverse 0 1 = true) (hb3b : evB u v p3.reverse 0 1 = true) : LL.run 52 [sl 0 0 3 c, .agg #[iv x, iv y], .agg #[iv u, iv v]] [.cells [sl 1 0 p1.length d1, sl 2 0 p2.length d2, sl 3 0 p3.length d3] 1 false true, .cells cs1 1 true own1, .cells cs2 1 true own2, .cells cs3 1 true own3] =
    some ⟨iv ((chN [sgP p1 x y, sgP p2 x y, sgP p3 x y] 0 0 : Nat) - (chN [sgP p1 u v, sgP p2 u v, sgP p3 u v] 0 0 : Nat) : Int), [], []⟩ := by
  have a1 := fun R => k49_3 c d1 d2 d3 (own1 := own1) (own2 := own2) (own3 := own3) hp1 h01 h61 hp2 h02 h62 hp3 h03 h63 x y R
  have a2 := fun z1 z2 R => k48_3 c d1 d2 d3 (own1 := own1) (own2 := own2) (own3 := own3) hp1 h01 h61 hp2 h02 h62 hp3 h03 h63 z1 z2 x y hb1 hb2 hb3 R
  have a3 := fun R => k49_3 c d1 d2 d3 (own1 := own1) (own2 := own2) (own3 := own3) hp1 h01 h61 hp2 h02 h62 hp3 h03 h63 u v R
  have a4 := fun z1 z2 z3 z4 z5 R => k48b_3 c d1 d2 d3 (own1 := own1) (own2 := own2) (own3 := own3) hp1 h01 h61 hp2 h02 h62 hp3 h03 h63 z1 z2 z3 z4 z5 u v hb1b hb2b hb3b R
  have b1 := chN_le [sgP p1 x y, sgP p2 x y, sgP p3 x y] 0 0
  have b2 := chN_le [sgP p1 u v, sgP p2 u v, sgP p3 u v] 0 0
  simp only [List.length_cons, List.length_nil] at b1 b2
  clear hp1 h01 h61 hp2 h02 h62 hp3 h03 h63 hb1 hb1b hb2 hb2b hb3 hb3b
  generalize chN [sgP p1 x y, sgP p2 x y, sgP p3 x y] 0 0 = N1 at *
  generalize chN [sgP p1 u v, sgP p2 u v, sgP p3 u v] 0 0 = N2 at *
  refine go (by decide) ?_
  rw [run52 _ _ _ (by simp)]
  simp (maxSteps := 1000000) (disch := first | omega | decide | assumption | simp [scal]) [loadA_eq ia_24, a1, a2, a3, a4]
end
end Go.Proofs.Ytkmompbfcgjgmaa.nt
