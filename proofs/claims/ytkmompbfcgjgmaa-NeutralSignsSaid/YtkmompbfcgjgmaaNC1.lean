/-
  Contracts of functions of the program at the limit evaluator. No condition.
-/
import Derived.Test.YtkmompbfcgjgmaaNCN
import Derived.Test.YtkmompbfcgjgmaaE40
namespace Go.Proofs.Ytkmompbfcgjgmaa.nt
open Go.GE
set_option linter.unusedVariables false
set_option linter.unusedSimpArgs false
set_option linter.unusedSectionVars false
set_option maxRecDepth 100000
set_option maxHeartbeats 4000000
attribute [local simp] runOps_nil runOps_cons runOpsF_nil runOpsF_cons fstS_some fstF_some opStep_eq want_none oStep_true oStep_false fin_pure fin_read fin_alloc fin_write storeB wrN cellV addWr o_move o_assign o_pick o_alloc o_box o_load o_store o_nilCheck o_bin o_un o_extract o_callV o_callB o_callI callV_f callV_y callV_fc o_makeFunc partsA Instr.fill builtin_len builtin_max2 bin_add bin_sub bin_mul bin_quo bin_rem bin_lss bin_leq bin_gtr bin_geq bin_eql bin_neq un_neg un_not bin_shr bin_shl wrap_u64_id opd opds optAll putO nbeq nblt constOk isC ops sub cl cr co bodyOf thenS_normal thenS_ret thenS_exit thenS_goto afterN_normal afterN_ret afterN_exit afterN_goto condS_true condS_false blockS_normal blockS_ret blockS_exit blockS_goto headS normS normK_eq fixS_nil fixS_cons fix1 fixV emptyB keepO_nil keepO_cons roundC_normal roundC_exit roundC_ret roundC_goto sweep_eq sweepD rnm pickR pickW rootsB ptrT renT ptrFn renFn ptrB_flat ptrB_non renB_flat renB_non plainS_some drawS_some fpsOk disj unord range' dropTo enumT undef wrap_i64_id Value.cells mkCells ptrTo scal cellsAt rdN endS_ret resultsA Option.bind_some tupV finish reachN dep ptrL_eq ptrL renL_eq renL ptrV_bool ptrV_int ptrV_string ptrV_nilFunc ptrV_nilIface ptrV_nilPtr ptrV_ptr ptrV_nilSl ptrV_sl ptrV_iface ptrV_agg ptrV_tuple ptrV_func renV_bool renV_int renV_string renV_nilFunc renV_nilIface renV_nilPtr renV_ptr renV_nilSl renV_sl renV_iface renV_agg renV_tuple renV_func gotoS_goto gotoS_normal gotoS_exit gotoS_ret skip_seq sliceE bnd bndHi intOf optOpd keepT_nil keepT_cons keepC_t keepC_f lk_nil lk_cons lkC_t lkC_f has_nil has_cons hasC_t hasC_f rep_nil rep_cons repC_t repC_f put_eq putC_t putC_f mem_nil mem_cons memC_t memC_f idx_nil idx_cons idxC_t idxC_f reach_nil reachP_cons reachQ_t reachQ_f ptrB_dead renB_dead ins_eq
attribute [local simp] n63_1s n63_3s n63_4s n63_2s n63_0s Try.f63 n67_1s n67_3s n67_4s n67_2s n67_0s Try.f67 n66_1s n66_3s n66_6s n66_10s n66_13s n66_14s n66_12s n66_18s n66_19s n66_17s n66_16s n66_20s n66_15s n66_11s n66_9s n66_8s n66_8g n66_7s n66_5s n66_22s n66_23s n66_21s n66_4s n66_2s n66_0s Try.f66 n54_1s n54_3s n54_6s n54_10s n54_13s n54_14s n54_12s n54_18s n54_19s n54_17s n54_16s n54_20s n54_15s n54_11s n54_9s n54_8s n54_8g n54_7s n54_5s n54_22s n54_23s n54_21s n54_4s n54_2s n54_0s Try.f54
theorem other {f : FuncId} (hf : (12 : Nat) ≠ f) (a : List Value) (h : List Blk) : (wk.wtab.keep kpT).run f a h = none := by
  show GE.tabR [wk.ew] f a h = none
  have : Nat.beq wk.ew.f f = false := GE.beq_false.2 hf
  simp only [tabR, this, Bool.false_and, cond_false]
theorem go {f : FuncId} {args : List Value} {h : List Blk} {r : RR} (hf : (12 : Nat) ≠ f) (he : runB Try.prog LL f args h = some r) : LL.run f args h = some r := L_run (other hf _ _) he
theorem k12 (h : List Blk) : callH LL 12 [] h = some ⟨.bool true, h, [], []⟩ := callH_plain (L_tab rfl) rfl rfl
abbrev sl (b off n c : Nat) : Value := .slice (some ⟨b, off, none⟩) n c
abbrev pp (b : Nat) : Value := .pointer (some ⟨b, 0, none⟩)
def zm (L : List Int) : List Value := L.map fun x => iv x
theorem zm_len {L : List Int} : (zm L).length = L.length := by simp [zm]
theorem zm_app {L M : List Int} : zm (L ++ M) = zm L ++ zm M := by simp [zm]
theorem zm_nil : zm [] = [] := rfl
abbrev zB (L : List Int) : Blk := .cells (zm L) 1 true true
/-- the cells of a polynomial come first in a block -/
def PoC (cs : List Value) (p : List Int) : Prop := ∀ i, i < p.length → cs[i]? = some (iv (p.getD i 0))
theorem PoC_zm {p : List Int} : PoC (zm p) p := by
  intro i hi
  simp [zm, hi]
theorem PoC_take {cs : List Value} {p : List Int} {k : Nat} (h : PoC cs p) : PoC cs (p.take k) := by
  intro i hi
  rw [List.length_take] at hi
  rw [h i (by omega)]
  simp [List.getD_eq_getElem?_getD, List.getElem?_take, show i < k by omega]
/-- cells that are being changed, one after the other -/
def mxL (f g : Nat → Int) (n i : Nat) : List Value := (List.range n).map fun j => iv (if j < i then f j else g j)
theorem mxL_len {f g : Nat → Int} {n i : Nat} : (mxL f g n i).length = n := by simp [mxL]
theorem mxL_set {f g : Nat → Int} {n i : Nat} (h : i < n) : (mxL f g n i).set i (iv (f i)) = mxL f g n (i + 1) := by
  apply List.ext_getElem?
  intro j
  rw [List.getElem?_set, mxL_len]
  by_cases hj : i = j
  · subst hj
    rw [if_pos rfl, if_pos h]
    simp only [mxL, List.getElem?_map, List.getElem?_range h, Option.map_some]
    rw [if_pos (by omega)]
  · rw [if_neg hj]
    by_cases hn : j < n
    · simp only [mxL, List.getElem?_map, List.getElem?_range hn, Option.map_some]
      by_cases h2 : j < i
      · rw [if_pos h2, if_pos (by omega)]
      · rw [if_neg h2, if_neg (by omega)]
    · rw [List.getElem?_eq_none (by rw [mxL_len]; omega), List.getElem?_eq_none (by rw [mxL_len]; omega)]
theorem mxL_full {f g : Nat → Int} {n : Nat} : mxL f g n n = zm ((List.range n).map f) := by
  simp only [mxL, zm, List.map_map]
  refine List.map_congr_left fun j hj => ?_
  rw [List.mem_range] at hj
  simp [hj]
theorem mxL_rep {f : Nat → Int} {n : Nat} : mxL f (fun _ => 0) n 0 = List.replicate n (iv 0) := by
  apply List.ext_getElem?
  intro j
  by_cases hn : j < n
  · simp [mxL, hn]
  · rw [List.getElem?_eq_none (by rw [mxL_len]; omega), List.getElem?_eq_none (by simp; omega)]
theorem of_range {p : List Int} : (List.range p.length).map (fun i => p.getD i 0) = p := by
  apply List.ext_getElem?
  intro j
  by_cases hn : j < p.length
  · simp [hn]
  · rw [List.getElem?_eq_none (by simp; omega), List.getElem?_eq_none (by omega)]
/-- what a machine's integer can be -/
def Sm (x : Int) : Prop := -9223372036854775808 ≤ x ∧ x < 9223372036854775808
theorem Sm.w {x : Int} (h : Sm x) : IntKind.i64.wrap x = x := wrap_i64_id h.1 h.2
theorem mk71 {σ : Tm} {h : List Blk} {d : Option Nat} {ty : TypeId} {pos : String} {af : Array Edge} {g : Option (Nat × Bool)} {x y : Operand} : aop Try.prog LL σ h ⟨d, .makeSlice 71 x y, ty, pos, af, g⟩ = (match opd σ x, opd σ y with
    | some (.int _ n), some (.int _ k) => if 0 ≤ n ∧ n ≤ k ∧ k * 8 ≤ 70368744177664 ∧ k ≤ 70368744177664 then allocR h (.cells (List.replicate k.toNat (iv 0)) 1 true true) fun b => .slice (some ⟨b, 0, none⟩) n.toNat k.toNat else none
    | _, _ => none) := by
  have e1 : Try.prog.underlying 71 = some (.slice 3) := by kernel_rfl
  have e2 : (Try.prog.info? 3).map (fun i => (i.bytes, i.size)) = some (8, 1) := by kernel_rfl
  have e3 : zeroA Try.prog 3 = some (iv 0) := by kernel_rfl
  obtain ⟨i, hi, hp⟩ := Option.map_eq_some_iff.1 e2
  obtain ⟨h8, h1⟩ := Prod.mk.inj hp
  have hfl : ∀ k : Nat, (List.replicate k [iv 0]).flatten = List.replicate k (iv 0) := fun k => List.flatten_replicate_singleton
  simp only [aop, e1, e2, e3, hi, h8, h1]
  cases opd σ x with
  | none => rfl
  | some v =>
    cases v <;> try rfl
    cases opd σ y with
    | none => rfl
    | some w =>
      cases w <;> try rfl
      rename_i k1 n k2 m
      simp only [e3, hi, h8, h1]
      by_cases hc : 0 ≤ n ∧ n ≤ m ∧ m * 8 ≤ 70368744177664 ∧ m ≤ 70368744177664
      · rw [if_pos hc, if_pos ⟨hc.1, hc.2.1, by have := hc.2.2.1; omega, by have := hc.2.2.2; omega, by decide, rfl⟩]
        show allocR h (.cells ((List.replicate m.toNat [iv 0]).flatten) 1 true true) _ = _
        rw [hfl]
      · rw [if_neg hc, if_neg (fun h => hc ⟨h.1, h.2.1, by have := h.2.2.1; omega, by have := h.2.2.2.1; omega⟩)]
theorem builtin_min2 {h : List Blk} {ts : List TypeId} {k k' : IntKind} {a b : Int} : builtinA Try.prog h .min ts [.int k a, .int k' b] = pureR h (.int k (if b < a then b else a)) := by
  cases ts <;> rfl
theorem few {n : Nat} (h : n ≤ 60) : (n : Int) * 8 ≤ 70368744177664 ∧ (n : Int) ≤ 70368744177664 := by omega
def sg (z : Int) : Int := if 0 < z then 1 else if z < 0 then -1 else 0
theorem k63 (z : Int) (h : List Blk) : callH LL 63 [iv z] h = some ⟨iv (sg z), h, [], []⟩ := by
  refine callH_plain (go (by decide) ?_) rfl rfl
  rw [run63 _ _ _ (by simp)]
  unfold sg
  by_cases h1 : 0 < z
  · have e1 : -1 < z := by omega
    by_cases h2 : z < 1
    · omega
    · simp (maxSteps := 1000000) (disch := first | omega | decide | assumption | simp [scal]) [h1, e1, h2, builtin_min2]
  · by_cases h2 : z < 0
    · have e1 : ¬ -1 < z := by omega
      simp (maxSteps := 1000000) (disch := first | omega | decide | assumption | simp [scal]) [h1, h2, e1, builtin_min2]
    · have e1 : z = 0 := by omega
      subst e1
      simp (maxSteps := 1000000) (disch := first | omega | decide | assumption | simp [scal]) [builtin_min2]
/-- the last coefficient -/
def lst (p : List Int) : Int := p.getD (p.length - 1) 0
section
variable (b c : Nat) {cs : List Value} {own : Bool} {p : List Int} {h : List Blk} (hb : h[b]? = some (.cells cs 1 true own)) (hc : PoC cs p)
include hb hc
theorem k67 (h0 : 0 < p.length) (hn : p.length ≤ 60) : callH LL 67 [sl b 0 p.length c] h = some ⟨iv (lst p), h, [b], []⟩ := by
  refine callH_1 rfl hb noIdB_flat (args' := [sl 0 0 p.length c]) (by simp [renV, dep, optAll, idx, nbeq]) (go (by decide) ?_) fun _ => rfl
  rw [run67 _ _ _ (by simp)]
  unfold lst
  have p1 := hc (p.length - 1) (by omega)
  generalize p.getD (p.length - 1) 0 = v at *
  obtain ⟨m, hm⟩ : ∃ m, p.length = m + 1 := ⟨p.length - 1, by omega⟩
  rw [hm, Nat.add_sub_cancel] at p1
  rw [hm]
  rw [hm] at hn
  clear hb hc h0
  have e1 : ((m + 1 : Nat) : Int) - 1 = m := by omega
  have e2 : m < m + 1 := by omega
  have e3 : (m : Int) < (m : Int) + 1 := by omega
  have e4 : m ≤ 59 := by omega
  simp only [cast1] at e1 ⊢
  simp (maxSteps := 1000000) (disch := first | omega | decide | assumption | simp [scal]) [lenA_sl lk_71, o_indexAddrS es_71, loadA_eq ia_3, e1, e2, e3, p1]
end
/-- times a number -/
def tms (p : List Int) (m : Int) : List Int := (List.range p.length).map fun i => p.getD i 0 * m
theorem tms_len {p : List Int} {m : Int} : (tms p m).length = p.length := by simp [tms]
theorem l66 (c : Nat) {cs : List Value} {own : Bool} {p : List Int} (hc : PoC cs p) (hn : p.length ≤ 60) (m : Int) (hs : ∀ i, i < p.length → Sm (p.getD i 0 * m)) : ∀ (q i : Nat), i + q = p.length →
    lpB Try.prog LL ⟨66, 26, 1, none⟩ n66_8 n66_9 ⟨[(1, iv m), (5, sl 1 0 p.length p.length), (11, sl 0 0 p.length c), (12, iv p.length), (13, iv i)], [.cells cs 1 true own, .cells (mxL (fun i => p.getD i 0 * m) (fun _ => 0) p.length i) 1 true true], []⟩ =
      some (.exit 0, ⟨[(5, sl 1 0 p.length p.length)], [.cells cs 1 true own, zB (tms p m)], []⟩) := by
  intro q
  induction q with
  | zero =>
    intro i hi
    obtain rfl : i = p.length := by omega
    rw [show mxL (fun i => p.getD i 0 * m) (fun _ => 0) p.length p.length = zm (tms p m) from mxL_full]
    simp only [zB]
    generalize zm (tms p m) = X
    rw [lpB_eq]
    simp (maxSteps := 1000000) (disch := first | omega | decide | assumption | simp [scal]) [lenA_sl lk_71, o_indexAddrS es_71, loadA_eq ia_3, sz_3]
  | succ q ih =>
    intro i hi
    have e0 : i < p.length := by omega
    have e1 : (i : Int) < p.length := by omega
    have this := ih (i + 1) (by omega)
    have p1 := hc i e0
    have w := (hs i e0).w
    have hset := mxL_set (f := fun i => p.getD i 0 * m) (g := fun _ => 0) e0
    have hl := mxL_len (f := fun i => p.getD i 0 * m) (g := fun _ => 0) (n := p.length) (i := i)
    rw [← hset] at this
    clear ih hset hs
    simp only [cast1] at this
    simp only [zB] at this ⊢
    generalize mxL _ _ _ i = R at *
    generalize p.getD i 0 = x at *
    generalize zm _ = X at *
    generalize p.length = n at *
    rw [lpB_eq]
    simp (maxSteps := 1000000) (disch := first | omega | decide | assumption | simp [scal]) [lenA_sl lk_71, o_indexAddrS es_71, loadA_eq ia_3, sz_3, e0, e1, p1, w, hl, this]
section
variable (b c : Nat) {cs : List Value} {own : Bool} {p : List Int} {h : List Blk} (hb : h[b]? = some (.cells cs 1 true own)) (hc : PoC cs p)
include hb hc
theorem k66 (hn : p.length ≤ 60) (m : Int) (hs : ∀ i, i < p.length → Sm (p.getD i 0 * m)) : callH LL 66 [sl b 0 p.length c, iv m] h = some ⟨sl h.length 0 p.length p.length, h ++ [zB (tms p m)], [b], []⟩ := by
  refine callN_1 rfl hb noIdB_flat (args' := [sl 0 0 p.length c, iv m]) (by simp [renV, dep, optAll, idx, nbeq]) (v := sl 1 0 p.length p.length) (news := [zB (tms p m)]) (go (by decide) ?_) (by intro blk hb; simp only [List.mem_singleton] at hb; subst hb; exact noIdB_flat) (by simp [renV, dep])
  have this := l66 c (own := own) hc hn m hs p.length 0 (by omega)
  rw [mxL_rep] at this
  simp only [zB, Int.natCast_zero] at this ⊢
  generalize zm _ = X at *
  obtain ⟨q1, q2⟩ := few hn
  rw [run66 _ _ _ (by simp)]
  simp (maxSteps := 1000000) (disch := first | omega | decide | assumption | simp [scal]) [lenA_sl lk_71, o_indexAddrS es_71, loadA_eq ia_3, sz_3, mk71, q1, q2, this]
end
/-- the derivative -/
def slp (p : List Int) : List Int := (List.range (p.length - 1)).map fun i => p.getD (i + 1) 0 * ((i : Int) + 1)
theorem slp_len {p : List Int} : (slp p).length = p.length - 1 := by simp [slp]
theorem l54 (c n : Nat) {cs : List Value} {own : Bool} {p : List Int} (hp : p.length = n + 1) (hc : PoC cs p) (hn : p.length ≤ 60) (hs : ∀ i, i < n → Sm (p.getD (i + 1) 0 * ((i : Int) + 1))) : ∀ (q i : Nat), i + q = n →
    lpB Try.prog LL ⟨54, 27, 1, none⟩ n54_8 n54_9 ⟨[(0, sl 0 0 (n + 1) c), (3, sl 1 0 n n), (10, iv n), (11, iv i)], [.cells cs 1 true own, .cells (mxL (fun i => p.getD (i + 1) 0 * ((i : Int) + 1)) (fun _ => 0) n i) 1 true true], []⟩ =
      some (.exit 0, ⟨[(3, sl 1 0 n n)], [.cells cs 1 true own, zB (slp p)], []⟩) := by
  intro q
  induction q with
  | zero =>
    intro i hi
    obtain rfl : i = n := by omega
    rw [show mxL (fun i => p.getD (i + 1) 0 * ((i : Int) + 1)) (fun _ => 0) i i = zm (slp p) by unfold slp; rw [mxL_full, hp, Nat.add_sub_cancel]]
    simp only [zB]
    generalize zm (slp p) = X
    rw [lpB_eq]
    simp (maxSteps := 1000000) (disch := first | omega | decide | assumption | simp [scal]) [lenA_sl lk_71, o_indexAddrS es_71, loadA_eq ia_3, sz_3]
  | succ q ih =>
    intro i hi
    have e0 : i < n := by omega
    have e1 : (i : Int) < n := by omega
    have this := ih (i + 1) (by omega)
    have p1 := hc (i + 1) (by omega)
    have w := (hs i e0).w
    have hset := mxL_set (f := fun i => p.getD (i + 1) 0 * ((i : Int) + 1)) (g := fun _ => 0) e0
    have hl := mxL_len (f := fun i => p.getD (i + 1) 0 * ((i : Int) + 1)) (g := fun _ => 0) (n := n) (i := i)
    rw [← hset] at this
    clear ih hset hs
    simp only [cast1] at this
    simp only [zB] at this ⊢
    have e2 : i < n + 1 := by omega
    have e3 : i + 1 < n + 1 := by omega
    have e4 : ((i : Int) + 1).toNat = i + 1 := by omega
    have e5 : 0 ≤ (i : Int) + 1 := by omega
    generalize mxL _ _ _ i = R at *
    generalize p.getD (i + 1) 0 = x at *
    generalize zm _ = X at *
    rw [lpB_eq]
    simp (maxSteps := 1000000) (disch := first | omega | decide | assumption | simp [scal]) [lenA_sl lk_71, o_indexAddrS es_71, loadA_eq ia_3, sz_3, e0, e1, e2, e3, e4, e5, p1, w, hl, this]
section
variable (b c : Nat) {cs : List Value} {own : Bool} {p : List Int} {h : List Blk} (hb : h[b]? = some (.cells cs 1 true own)) (hc : PoC cs p)
include hb hc
theorem k54 (h0 : 0 < p.length) (hn : p.length ≤ 60) (hs : ∀ i, i < p.length - 1 → Sm (p.getD (i + 1) 0 * ((i : Int) + 1))) : callH LL 54 [sl b 0 p.length c] h = some ⟨sl h.length 0 (p.length - 1) (p.length - 1), h ++ [zB (slp p)], [b], []⟩ := by
  obtain ⟨n, hp⟩ : ∃ n, p.length = n + 1 := ⟨p.length - 1, by omega⟩
  refine callN_1 rfl hb noIdB_flat (args' := [sl 0 0 p.length c]) (by simp [renV, dep, optAll, idx, nbeq]) (v := sl 1 0 (p.length - 1) (p.length - 1)) (news := [zB (slp p)]) (go (by decide) ?_) (by intro blk hb; simp only [List.mem_singleton] at hb; subst hb; exact noIdB_flat) (by simp [renV, dep])
  have this := l54 c n (own := own) hp hc hn (by rwa [hp, Nat.add_sub_cancel] at hs) n 0 (by omega)
  rw [mxL_rep] at this
  rw [hp, Nat.add_sub_cancel]
  simp only [zB, Int.natCast_zero] at this ⊢
  generalize zm _ = X at *
  have e1 : ((n + 1 : Nat) : Int) - 1 = n := by omega
  simp only [cast1] at e1
  obtain ⟨q1, q2⟩ := few (n := n) (by omega)
  rw [run54 _ _ _ (by simp)]
  simp (maxSteps := 1000000) (disch := first | omega | decide | assumption | simp [scal]) [lenA_sl lk_71, o_indexAddrS es_71, loadA_eq ia_3, sz_3, mk71, e1, q1, q2, this]
end
end Go.Proofs.Ytkmompbfcgjgmaa.nt
namespace Go.Proofs.Ytkmompbfcgjgmaa.nt
open Go.GE
set_option linter.unusedVariables false
set_option linter.unusedSimpArgs false
set_option linter.unusedSectionVars false
set_option maxRecDepth 100000
set_option maxHeartbeats 4000000
attribute [local simp] runOps_nil runOps_cons runOpsF_nil runOpsF_cons fstS_some fstF_some opStep_eq want_none oStep_true oStep_false fin_pure fin_read fin_alloc fin_write storeB wrN cellV addWr o_move o_assign o_pick o_alloc o_box o_load o_store o_nilCheck o_bin o_un o_extract o_callV o_callB o_callI callV_f callV_y callV_fc o_makeFunc partsA Instr.fill builtin_len builtin_max2 bin_add bin_sub bin_mul bin_quo bin_rem bin_lss bin_leq bin_gtr bin_geq bin_eql bin_neq un_neg un_not bin_shr bin_shl wrap_u64_id opd opds optAll putO nbeq nblt constOk isC ops sub cl cr co bodyOf thenS_normal thenS_ret thenS_exit thenS_goto afterN_normal afterN_ret afterN_exit afterN_goto condS_true condS_false blockS_normal blockS_ret blockS_exit blockS_goto headS normS normK_eq fixS_nil fixS_cons fix1 fixV emptyB keepO_nil keepO_cons roundC_normal roundC_exit roundC_ret roundC_goto sweep_eq sweepD rnm pickR pickW rootsB ptrT renT ptrFn renFn ptrB_flat ptrB_non renB_flat renB_non plainS_some drawS_some fpsOk disj unord range' dropTo enumT undef wrap_i64_id Value.cells mkCells ptrTo scal cellsAt rdN endS_ret resultsA Option.bind_some tupV finish reachN dep ptrL_eq ptrL renL_eq renL ptrV_bool ptrV_int ptrV_string ptrV_nilFunc ptrV_nilIface ptrV_nilPtr ptrV_ptr ptrV_nilSl ptrV_sl ptrV_iface ptrV_agg ptrV_tuple ptrV_func renV_bool renV_int renV_string renV_nilFunc renV_nilIface renV_nilPtr renV_ptr renV_nilSl renV_sl renV_iface renV_agg renV_tuple renV_func gotoS_goto gotoS_normal gotoS_exit gotoS_ret skip_seq sliceE bnd bndHi intOf optOpd keepT_nil keepT_cons keepC_t keepC_f lk_nil lk_cons lkC_t lkC_f has_nil has_cons hasC_t hasC_f rep_nil rep_cons repC_t repC_f put_eq putC_t putC_f mem_nil mem_cons memC_t memC_f idx_nil idx_cons idxC_t idxC_f reach_nil reachP_cons reachQ_t reachQ_f ptrB_dead renB_dead ins_eq
attribute [local simp] n71_1s n71_3s n71_6s n71_10s n71_13s n71_14s n71_12s n71_18s n71_21s n71_26s n71_28s n71_29s n71_27s n71_25s n71_31s n71_30s n71_24s n71_23s n71_23g n71_22s n71_20s n71_33s n71_35s n71_36s n71_34s n71_32s n71_19s n71_17s n71_16s n71_37s n71_15s n71_11s n71_9s n71_8s n71_8g n71_7s n71_5s n71_39s n71_42s n71_46s n71_49s n71_50s n71_48s n71_54s n71_55s n71_53s n71_52s n71_56s n71_51s n71_47s n71_45s n71_44s n71_44g n71_43s n71_41s n71_58s n71_59s n71_57s n71_40s n71_38s n71_4s n71_2s n71_0s Try.f71 n78_1s n78_7s n78_9s n78_10s n78_8s n78_6s n78_12s n78_11s n78_5s n78_4s n78_4g n78_3s n78_14s n78_15s n78_13s n78_2s n78_0s Try.f78
/-- how far the coefficients reach that are not 0 -/
def dgL (p : List Int) : Nat → Nat → Nat → Nat
  | 0, _, k => k
  | q + 1, i, k => dgL p q (i + 1) (if p.getD i 0 = 0 then k else i + 1)
def gcL (p : List Int) : Nat → Nat → Nat → Nat
  | 0, _, d => d
  | q + 1, i, d => gcL p q (i + 1) (Nat.gcd d (p.getD i 0).natAbs)
def dgP (p : List Int) : Nat := dgL p p.length 0 0
def gcP (p : List Int) : Nat := gcL p p.length 0 0
def lea (p : List Int) : List Int := (List.range (dgP p)).map fun i => (p.getD i 0).tdiv (gcP p)
theorem dgL_le {p : List Int} : ∀ q i k, k ≤ i → dgL p q i k ≤ i + q := by
  intro q
  induction q with
  | zero => intro i k h; exact h
  | succ q ih =>
    intro i k h
    have := ih (i + 1) (if p.getD i 0 = 0 then k else i + 1) (by split <;> omega)
    unfold dgL; omega
theorem dgP_le {p : List Int} : dgP p ≤ p.length := by
  have := dgL_le (p := p) p.length 0 0 (Nat.le_refl _)
  unfold dgP; omega
theorem lea_len {p : List Int} : (lea p).length = dgP p := by simp [lea]
section
variable (c : Nat) {cs : List Value} {own : Bool} {p : List Int} (hc : PoC cs p) (hn : p.length ≤ 60)
include hc hn
theorem l71g (i k n : Nat) (x : Int) : ∀ (a d : Nat), a < 9223372036854775808 → d < 9223372036854775808 →
    lpB Try.prog LL ⟨71, 50, 1, none⟩ n71_23 n71_24 ⟨[(5, iv i), (6, iv x), (7, iv a), (0, sl 0 0 p.length c), (3, iv d), (4, iv k), (10, sl 0 0 p.length c), (11, iv n), (12, iv i)], [.cells cs 1 true own], []⟩ =
      some (.exit 2, ⟨[(5, iv i), (6, iv x), (0, sl 0 0 p.length c), (3, iv (Nat.gcd a d : Nat)), (4, iv k), (10, sl 0 0 p.length c), (11, iv n), (12, iv i)], [.cells cs 1 true own], []⟩) := by
  intro a
  induction a using Nat.strongRecOn with
  | _ a ih =>
    intro d ha hd
    by_cases h0 : a = 0
    · subst h0
      rw [Nat.gcd_zero_left]
      simp only [Int.natCast_zero]
      rw [lpB_eq]
      simp (maxSteps := 1000000) (disch := first | omega | decide | assumption | simp [scal]) [lenA_sl lk_71, o_indexAddrS es_71, loadA_eq ia_3, sz_3]
    · have hm : d % a < a := Nat.mod_lt _ (by omega)
      have this := ih (d % a) hm a (by omega) ha
      rw [← Nat.gcd_rec] at this
      have e1 : 0 < a := by omega
      have e2 : (0 : Int) < a := by omega
      have e3 : ¬ (a : Int) = 0 := by omega
      have e4 : Int.tmod (d : Int) (a : Int) = ((d % a : Nat) : Int) := rfl
      clear ih
      generalize ((d % a : Nat) : Int) = r at *
      generalize Nat.gcd a d = g at *
      rw [lpB_eq]
      simp (maxSteps := 1000000) (disch := first | omega | decide | assumption | simp [scal]) [lenA_sl lk_71, o_indexAddrS es_71, loadA_eq ia_3, sz_3, e1, e2, e3, e4, h0, this]
theorem l71 (hs : ∀ x, x ∈ p → -9223372036854775808 < x ∧ x < 9223372036854775808) : ∀ (q i k d : Nat), i + q = p.length → k ≤ i → d < 9223372036854775808 →
    lpB Try.prog LL ⟨71, 50, 1, none⟩ n71_8 n71_9 ⟨[(0, sl 0 0 p.length c), (3, iv d), (4, iv k), (10, sl 0 0 p.length c), (11, iv p.length), (12, iv i)], [.cells cs 1 true own], []⟩ =
      some (.exit 0, ⟨[(0, sl 0 0 p.length c), (3, iv (gcL p q i d : Nat)), (4, iv (dgL p q i k : Nat))], [.cells cs 1 true own], []⟩) := by
  intro q
  induction q with
  | zero =>
    intro i k d hi hk hd
    obtain rfl : i = p.length := by omega
    simp only [gcL, dgL]
    rw [lpB_eq]
    simp (maxSteps := 1000000) (disch := first | omega | decide | assumption | simp [scal]) [lenA_sl lk_71, o_indexAddrS es_71, loadA_eq ia_3, sz_3]
  | succ q ih =>
    intro i k d hi hk hd
    have e0 : i < p.length := by omega
    have e1 : (i : Int) < p.length := by omega
    have p1 := hc i e0
    have hx : p.getD i 0 = p[i] := by simp [e0]
    have hb := hs (p.getD i 0) (by rw [hx]; exact List.getElem_mem _)
    simp only [gcL, dgL]
    have hg : Nat.gcd d (p.getD i 0).natAbs < 9223372036854775808 := by
      by_cases hz : d = 0
      · subst hz; rw [Nat.gcd_zero_left]; omega
      · have := Nat.gcd_le_left (n := (p.getD i 0).natAbs) (show 0 < d by omega); omega
    have lg := l71g c (own := own) hc hn i k p.length (p.getD i 0) (p.getD i 0).natAbs d (by omega) hd
    rw [Nat.gcd_comm] at lg
    have ew : IntKind.i64.wrap (-(p.getD i 0)) = -(p.getD i 0) := wrap_i64_id (by omega) (by omega)
    by_cases h0 : p.getD i 0 = 0
    · rw [if_pos h0]
      have this := ih (i + 1) k (Nat.gcd d (p.getD i 0).natAbs) (by omega) (by omega) hg
      rw [h0] at p1 ew lg this ⊢
      simp only [cast1] at this
      clear ih hs hb hx hg h0
      simp only [Int.natAbs_zero, Int.natCast_zero] at lg this ⊢
      generalize gcL p q (i + 1) _ = Z1 at *
      generalize dgL p q (i + 1) _ = Z2 at *
      generalize Nat.gcd d 0 = g at *
      rw [lpB_eq]
      simp (maxSteps := 1000000) (disch := first | omega | decide | assumption | simp [scal]) [lenA_sl lk_71, o_indexAddrS es_71, loadA_eq ia_3, sz_3, e0, e1, p1, lg, this]
    · rw [if_neg h0]
      have this := ih (i + 1) (i + 1) (Nat.gcd d (p.getD i 0).natAbs) (by omega) (by omega) hg
      simp only [cast1] at this
      generalize gcL p q (i + 1) _ = Z1 at *
      generalize dgL p q (i + 1) _ = Z2 at *
      generalize Nat.gcd d _ = g at *
      generalize p.getD i 0 = x at *
      clear ih hs hx hg
      by_cases h1 : -x > x
      · have e3 : ((x.natAbs : Nat) : Int) = -x := by omega
        rw [e3] at lg
        have h1' : x < -x := h1
        rw [lpB_eq]
        simp (maxSteps := 1000000) (disch := first | omega | decide | assumption | simp [scal]) [lenA_sl lk_71, o_indexAddrS es_71, loadA_eq ia_3, sz_3, e0, e1, p1, h0, h1', ew, lg, this]
      · have e3 : ((x.natAbs : Nat) : Int) = x := by omega
        rw [e3] at lg
        have h1' : ¬ x < -x := h1
        rw [lpB_eq]
        simp (maxSteps := 1000000) (disch := first | omega | decide | assumption | simp [scal]) [lenA_sl lk_71, o_indexAddrS es_71, loadA_eq ia_3, sz_3, e0, e1, p1, h0, h1', ew, lg, this]
theorem l71b (k d : Nat) (hk : k ≤ p.length) (hd : 0 < d) (hs : ∀ x, x ∈ p → -9223372036854775808 < x ∧ x < 9223372036854775808) : ∀ (q i : Nat), i + q = k →
    lpB Try.prog LL ⟨71, 50, 1, none⟩ n71_44 n71_45 ⟨[(0, sl 0 0 p.length c), (3, iv d), (8, sl 1 0 k k), (35, iv k), (36, iv i)], [.cells cs 1 true own, .cells (mxL (fun i => (p.getD i 0).tdiv d) (fun _ => 0) k i) 1 true true], []⟩ =
      some (.exit 4, ⟨[(8, sl 1 0 k k)], [.cells cs 1 true own, zB ((List.range k).map fun i => (p.getD i 0).tdiv d)], []⟩) := by
  intro q
  induction q with
  | zero =>
    intro i hi
    obtain rfl : i = k := by omega
    rw [mxL_full]
    simp only [zB]
    generalize zm _ = X
    rw [lpB_eq]
    simp (maxSteps := 1000000) (disch := first | omega | decide | assumption | simp [scal]) [lenA_sl lk_71, o_indexAddrS es_71, loadA_eq ia_3, sz_3]
  | succ q ih =>
    intro i hi
    have e0 : i < k := by omega
    have e1 : (i : Int) < k := by omega
    have e2 : i < p.length := by omega
    have e2' : (i : Int) < p.length := by omega
    have this := ih (i + 1) (by omega)
    have p1 := hc i e2
    have hx : p.getD i 0 = p[i] := by simp [e2]
    have hb := hs (p.getD i 0) (by rw [hx]; exact List.getElem_mem _)
    have hq : (Int.tdiv (p.getD i 0) d).natAbs ≤ (p.getD i 0).natAbs := by
      rw [Int.natAbs_tdiv]; exact Nat.div_le_self _ _
    have w : IntKind.i64.wrap ((p.getD i 0).tdiv d) = (p.getD i 0).tdiv d := wrap_i64_id (by omega) (by omega)
    have hset := mxL_set (f := fun i => (p.getD i 0).tdiv d) (g := fun _ => 0) e0
    have hl := mxL_len (f := fun i => (p.getD i 0).tdiv d) (g := fun _ => 0) (n := k) (i := i)
    rw [← hset] at this
    have e3 : ¬ (d : Int) = 0 := by omega
    have e4 : ¬ d = 0 := by omega
    clear ih hset hs hb hq
    simp only [cast1] at this
    simp only [zB] at this ⊢
    generalize mxL _ _ _ i = R at *
    generalize p.getD i 0 = x at *
    generalize zm _ = X at *
    rw [lpB_eq]
    simp (maxSteps := 1000000) (disch := first | omega | decide | assumption | simp [scal]) [lenA_sl lk_71, o_indexAddrS es_71, loadA_eq ia_3, sz_3, e0, e1, e2, e2', e3, e4, p1, w, hl, this]
end
theorem gcL_pos {p : List Int} : ∀ q i d, (0 < d ∨ ∃ j, i ≤ j ∧ j < i + q ∧ p.getD j 0 ≠ 0) → 0 < gcL p q i d := by
  intro q
  induction q with
  | zero => intro i d h; rcases h with h | ⟨j, h1, h2, _⟩; exact h; omega
  | succ q ih =>
    intro i d h
    unfold gcL
    refine ih _ _ ?_
    rcases h with h | ⟨j, h1, h2, h3⟩
    · exact .inl (Nat.gcd_pos_of_pos_left _ h)
    · by_cases e : j = i
      · subst e; exact .inl (Nat.gcd_pos_of_pos_right _ (by omega))
      · exact .inr ⟨j, by omega, by omega, h3⟩
theorem dgL_pos {p : List Int} : ∀ q i k, (∀ j, i ≤ j → j < i + q → p.getD j 0 = 0) → dgL p q i k = k := by
  intro q
  induction q with
  | zero => intro i k _; rfl
  | succ q ih =>
    intro i k h
    unfold dgL
    rw [if_pos (h i (by omega) (by omega))]
    exact ih _ _ fun j h1 h2 => h j (by omega) (by omega)
theorem gcP_pos {p : List Int} (h : 0 < dgP p) : 0 < gcP p := by
  unfold gcP
  refine gcL_pos _ _ _ (.inr ?_)
  refine Classical.byContradiction fun hn => ?_
  have := dgL_pos (p := p) p.length 0 0 fun j h1 h2 => Classical.byContradiction fun h3 => hn ⟨j, h1, h2, h3⟩
  unfold dgP at h
  omega
section
variable (b c : Nat) {cs : List Value} {own : Bool} {p : List Int} {h : List Blk} (hb : h[b]? = some (.cells cs 1 true own)) (hc : PoC cs p)
include hb hc
theorem k71 (hn : p.length ≤ 60) (hs : ∀ x, x ∈ p → -9223372036854775808 < x ∧ x < 9223372036854775808) : callH LL 71 [sl b 0 p.length c] h = some ⟨sl h.length 0 (dgP p) (dgP p), h ++ [zB (lea p)], [b], []⟩ := by
  refine callN_1 rfl hb noIdB_flat (args' := [sl 0 0 p.length c]) (by simp [renV, dep, optAll, idx, nbeq]) (v := sl 1 0 (dgP p) (dgP p)) (news := [zB (lea p)]) (go (by decide) ?_) (by intro blk hb; simp only [List.mem_singleton] at hb; subst hb; exact noIdB_flat) (by simp [renV, dep])
  have l1 := l71 c (own := own) hc hn hs p.length 0 0 0 (by omega) (by omega) (by omega)
  have hdl := dgP_le (p := p)
  obtain ⟨q1, q2⟩ := few (n := dgP p) (by omega)
  rw [show gcL p p.length 0 0 = gcP p from rfl, show dgL p p.length 0 0 = dgP p from rfl] at l1
  unfold lea
  by_cases h0 : dgP p = 0
  · rw [h0] at l1 ⊢
    simp only [zB, Int.natCast_zero, List.range_zero, List.map_nil, zm_nil] at l1 ⊢
    generalize gcP p = d at *
    rw [run71 _ _ _ (by simp)]
    have l3 : lpB Try.prog LL ⟨71, 50, 1, none⟩ n71_44 n71_45 ⟨[(0, sl 0 0 p.length c), (3, iv d), (8, sl 1 0 0 0), (35, iv 0), (36, iv 0)], [.cells cs 1 true own, .cells [] 1 true true], []⟩ = some (.exit 4, ⟨[(8, sl 1 0 0 0)], [.cells cs 1 true own, .cells [] 1 true true], []⟩) := by
      rw [lpB_eq]
      simp (maxSteps := 1000000) (disch := first | omega | decide | assumption | simp [scal]) [lenA_sl lk_71, o_indexAddrS es_71, loadA_eq ia_3, sz_3]
    simp (maxSteps := 1000000) (disch := first | omega | decide | assumption | simp [scal]) [lenA_sl lk_71, o_indexAddrS es_71, loadA_eq ia_3, sz_3, mk71, l1, l3]
  · have hd := gcP_pos (p := p) (by omega)
    have l2 := l71b c (own := own) hc hn (dgP p) (gcP p) hdl hd hs (dgP p) 0 (by omega)
    rw [mxL_rep] at l2
    simp only [zB, Int.natCast_zero] at l1 l2 ⊢
    generalize zm _ = X at *
    generalize gcP p = d at *
    generalize dgP p = k at *
    rw [run71 _ _ _ (by simp)]
    simp (maxSteps := 1000000) (disch := first | omega | decide | assumption | simp [scal]) [lenA_sl lk_71, o_indexAddrS es_71, loadA_eq ia_3, sz_3, mk71, q1, q2, l1, l2]
end
/-- without zeros at its end -/
def trmN (p : List Int) : Nat → Nat
  | 0 => 0
  | k + 1 => if p.getD k 0 = 0 then trmN p k else k + 1
theorem trmN_le {p : List Int} : ∀ k, trmN p k ≤ k := by
  intro k
  induction k with
  | zero => exact Nat.le_refl _
  | succ k ih => unfold trmN; split <;> omega
theorem l78 (c : Nat) {cs : List Value} {own : Bool} {p : List Int} (hc : PoC cs p) : ∀ (k : Nat), k ≤ p.length → k ≤ c → k ≤ 60 →
    lpB Try.prog LL ⟨78, 17, 1, none⟩ n78_4 n78_5 ⟨[(0, sl 0 0 k c)], [.cells cs 1 true own], []⟩ =
      some (.exit 0, ⟨[(0, sl 0 0 (trmN p k) c)], [.cells cs 1 true own], []⟩) := by
  intro k
  induction k with
  | zero =>
    intro _ _ _
    simp only [trmN]
    rw [lpB_eq]
    simp (maxSteps := 1000000) (disch := first | omega | decide | assumption | simp [scal]) [lenA_sl lk_71, o_sliceS sl_71, want_some q78_7g3]
  | succ k ih =>
    intro h1 h2 h3
    have a := k67 0 c (own := own) (p := p.take (k + 1)) (h := [.cells cs 1 true own]) rfl (PoC_take hc) (by rw [List.length_take]; omega) (by rw [List.length_take]; omega)
    rw [show (p.take (k + 1)).length = k + 1 by rw [List.length_take]; omega, show lst (p.take (k + 1)) = p.getD k 0 by
      unfold lst; rw [show (p.take (k + 1)).length = k + 1 by rw [List.length_take]; omega]; simp [List.getD_eq_getElem?_getD, List.getElem?_take]] at a
    have this := ih (by omega) (by omega) (by omega)
    simp only [trmN]
    have e1 : (0 : Int) < (k : Int) + 1 := by omega
    have e2 : (k : Int) + 1 - 1 = k := by omega
    have e3 : (k : Int) ≤ c := by omega
    have e4 : k ≤ c := by omega
    clear ih
    by_cases h0 : p.getD k 0 = 0
    · rw [if_pos h0]
      rw [h0] at a
      generalize trmN p k = Z at *
      rw [lpB_eq]
      simp (maxSteps := 1000000) (disch := first | omega | decide | assumption | simp [scal]) [lenA_sl lk_71, o_sliceS sl_71, want_some q78_7g3, e1, e2, e3, e4, a, this]
    · rw [if_neg h0]
      generalize p.getD k 0 = x at *
      rw [lpB_eq]
      simp (maxSteps := 1000000) (disch := first | omega | decide | assumption | simp [scal]) [lenA_sl lk_71, o_sliceS sl_71, want_some q78_7g3, e1, e2, e3, e4, h0, a]
end Go.Proofs.Ytkmompbfcgjgmaa.nt
namespace Go.Proofs.Ytkmompbfcgjgmaa.nt
open Go.GE
set_option linter.unusedVariables false
set_option linter.unusedSimpArgs false
set_option linter.unusedSectionVars false
set_option maxRecDepth 100000
set_option maxHeartbeats 4000000
attribute [local simp] runOps_nil runOps_cons runOpsF_nil runOpsF_cons fstS_some fstF_some opStep_eq want_none oStep_true oStep_false fin_pure fin_read fin_alloc fin_write storeB wrN cellV addWr o_move o_assign o_pick o_alloc o_box o_load o_store o_nilCheck o_bin o_un o_extract o_callV o_callB o_callI callV_f callV_y callV_fc o_makeFunc partsA Instr.fill builtin_len builtin_max2 bin_add bin_sub bin_mul bin_quo bin_rem bin_lss bin_leq bin_gtr bin_geq bin_eql bin_neq un_neg un_not bin_shr bin_shl wrap_u64_id opd opds optAll putO nbeq nblt constOk isC ops sub cl cr co bodyOf thenS_normal thenS_ret thenS_exit thenS_goto afterN_normal afterN_ret afterN_exit afterN_goto condS_true condS_false blockS_normal blockS_ret blockS_exit blockS_goto headS normS normK_eq fixS_nil fixS_cons fix1 fixV emptyB keepO_nil keepO_cons roundC_normal roundC_exit roundC_ret roundC_goto sweep_eq sweepD rnm pickR pickW rootsB ptrT renT ptrFn renFn ptrB_flat ptrB_non renB_flat renB_non plainS_some drawS_some fpsOk disj unord range' dropTo enumT undef wrap_i64_id Value.cells mkCells ptrTo scal cellsAt rdN endS_ret resultsA Option.bind_some tupV finish reachN dep ptrL_eq ptrL renL_eq renL ptrV_bool ptrV_int ptrV_string ptrV_nilFunc ptrV_nilIface ptrV_nilPtr ptrV_ptr ptrV_nilSl ptrV_sl ptrV_iface ptrV_agg ptrV_tuple ptrV_func renV_bool renV_int renV_string renV_nilFunc renV_nilIface renV_nilPtr renV_ptr renV_nilSl renV_sl renV_iface renV_agg renV_tuple renV_func gotoS_goto gotoS_normal gotoS_exit gotoS_ret skip_seq sliceE bnd bndHi intOf optOpd keepT_nil keepT_cons keepC_t keepC_f lk_nil lk_cons lkC_t lkC_f has_nil has_cons hasC_t hasC_f rep_nil rep_cons repC_t repC_f put_eq putC_t putC_f mem_nil mem_cons memC_t memC_f idx_nil idx_cons idxC_t idxC_f reach_nil reachP_cons reachQ_t reachQ_f ptrB_dead renB_dead ins_eq
attribute [local simp] n78_1s n78_7s n78_9s n78_10s n78_8s n78_6s n78_12s n78_11s n78_5s n78_4s n78_4g n78_3s n78_14s n78_15s n78_13s n78_2s n78_0s Try.f78 n65_1s n65_3s n65_9s n65_11s n65_12s n65_10s n65_8s n65_15s n65_18s n65_20s n65_21s n65_19s n65_17s n65_23s n65_25s n65_27s n65_30s n65_34s n65_37s n65_38s n65_36s n65_42s n65_43s n65_41s n65_40s n65_44s n65_39s n65_35s n65_33s n65_32s n65_32g n65_31s n65_29s n65_45s n65_28s n65_26s n65_24s n65_22s n65_16s n65_14s n65_13s n65_7s n65_6s n65_6g n65_5s n65_47s n65_48s n65_46s n65_4s n65_2s n65_0s Try.f65
section
variable (b c : Nat) {cs : List Value} {own : Bool} {p : List Int} {h : List Blk} (hb : h[b]? = some (.cells cs 1 true own)) (hc : PoC cs p)
include hb hc
theorem k78 (k : Nat) (hk : k ≤ p.length) (hkc : k ≤ c) (hn : k ≤ 60) : callH LL 78 [sl b 0 k c] h = some ⟨sl b 0 (trmN p k) c, h, [b], []⟩ := by
  have := callN_1 (E := LL) (f := 78) rfl hb noIdB_flat (args := [sl b 0 k c]) (args' := [sl 0 0 k c]) (by simp [renV, dep, optAll, idx, nbeq]) (v := sl 0 0 (trmN p k) c) (v' := sl b 0 (trmN p k) c) (news := []) (go (by decide) (by
    have l := l78 c (own := own) hc k hk hkc hn
    generalize trmN p k = Z at *
    rw [run78 _ _ _ (by simp)]
    simp (maxSteps := 1000000) (disch := first | omega | decide | assumption | simp [scal]) [lenA_sl lk_71, o_sliceS sl_71, want_some q78_7g3, l])) (by intro blk hb; cases hb) (by simp [renV, dep])
  rw [List.append_nil] at this
  exact this
end
def allB (L : List Int) : Bool := L.all fun x => decide (x.natAbs ≤ 4611686018427387904)
theorem allB_mem {L : List Int} (h : allB L = true) {x : Int} (hx : x ∈ L) : -4611686018427387904 ≤ x ∧ x ≤ 4611686018427387904 := by
  have := List.all_eq_true.1 h x hx
  rw [decide_eq_true_eq] at this
  omega
theorem getD_mem {L : List Int} {i : Nat} (h : i < L.length) : L.getD i 0 ∈ L := by
  have : L.getD i 0 = L[i] := by simp [h]
  rw [this]; exact List.getElem_mem h
theorem allB_get {L : List Int} (h : allB L = true) {i : Nat} (hi : i < L.length) : -4611686018427387904 ≤ L.getD i 0 ∧ L.getD i 0 ≤ 4611686018427387904 := allB_mem h (getD_mem hi)
def sz (o : List Int) : Int := (lst o).natAbs
def lead (p o : List Int) : Int := lst p * sg (lst o)
def stp2 (p o : List Int) : List Int := (List.range p.length).map fun i => if p.length - o.length ≤ i then p.getD i 0 * sz o - lead p o * o.getD (i - (p.length - o.length)) 0 else p.getD i 0 * sz o
def stpP (p o : List Int) : List Int := (stp2 p o).take (trmN (stp2 p o) p.length)
def stpQ (p o q : List Int) : List Int := (tms q (sz o)).set (p.length - o.length) ((tms q (sz o)).getD (p.length - o.length) 0 + lead p o)
/-- nothing is too great in a step -/
def stpB (p o q : List Int) : Bool := allB p && allB o && allB (tms p (sz o)) && allB (tms q (sz o)) && decide ((lead p o).natAbs ≤ 4611686018427387904) && allB (stpQ p o q) && allB (tms o (lead p o)) && allB (stp2 p o)
def ovr : Nat → List Int → List Int → List Int → List Int × List Int
  | 0, p, _, q => (q, p)
  | f + 1, p, o, q => bif Nat.blt p.length o.length then (q, p) else ovr f (stpP p o) o (stpQ p o q)
def ovrB : Nat → List Int → List Int → List Int → Bool
  | 0, _, _, _ => true
  | f + 1, p, o, q => bif Nat.blt p.length o.length then true else stpB p o q && ovrB f (stpP p o) o (stpQ p o q)
theorem stp2_len {p o : List Int} : (stp2 p o).length = p.length := by simp [stp2]
theorem sz_sg {o : List Int} : sg (lst o) * lst o = sz o := by
  unfold sg sz
  split
  · omega
  · split <;> omega
theorem stp2_last {p o : List Int} (h0 : 0 < o.length) (h : o.length ≤ p.length) : (stp2 p o).getD (p.length - 1) 0 = 0 := by
  have e : (stp2 p o).getD (p.length - 1) 0 = p.getD (p.length - 1) 0 * sz o - lead p o * o.getD (p.length - 1 - (p.length - o.length)) 0 := by
    unfold stp2
    rw [List.getD_eq_getElem?_getD, List.getElem?_map, List.getElem?_range (by omega)]
    simp only [Option.map_some, Option.getD_some]
    rw [if_pos (by omega)]
  rw [e, show p.length - 1 - (p.length - o.length) = o.length - 1 by omega]
  show lst p * sz o - lst p * sg (lst o) * lst o = 0
  rw [Int.mul_assoc, sz_sg, Int.sub_self]
theorem stpP_lt {p o : List Int} (h0 : 0 < o.length) (h : o.length ≤ p.length) : (stpP p o).length < p.length := by
  unfold stpP
  rw [List.length_take, stp2_len]
  obtain ⟨m, hm⟩ : ∃ m, p.length = m + 1 := ⟨p.length - 1, by omega⟩
  have hl := stp2_last h0 h
  rw [hm, Nat.add_sub_cancel] at hl
  have : trmN (stp2 p o) p.length = trmN (stp2 p o) m := by rw [hm]; simp only [trmN, hl, if_true]
  rw [this]
  have := trmN_le (p := stp2 p o) m
  omega
/-- cells in the middle of a block that are being changed -/
def mxK (f g : Nat → Int) (n k j : Nat) : List Value := (List.range n).map fun i => iv (if k ≤ i ∧ i < k + j then f i else g i)
theorem mxK_len {f g : Nat → Int} {n k j : Nat} : (mxK f g n k j).length = n := by simp [mxK]
theorem mxK_get {f g : Nat → Int} {n k j i : Nat} (h : i < n) (hj : k + j ≤ i) : (mxK f g n k j)[i]? = some (iv (g i)) := by
  simp only [mxK, List.getElem?_map, List.getElem?_range h, Option.map_some]
  rw [if_neg (by omega)]
theorem mxK_set {f g : Nat → Int} {n k j : Nat} (h : j + k < n) : (mxK f g n k j).set (j + k) (iv (f (j + k))) = mxK f g n k (j + 1) := by
  apply List.ext_getElem?
  intro i
  rw [List.getElem?_set, mxK_len]
  by_cases hj : j + k = i
  · subst hj
    rw [if_pos rfl, if_pos h]
    simp only [mxK, List.getElem?_map, List.getElem?_range h, Option.map_some]
    rw [if_pos (by omega)]
  · rw [if_neg hj]
    by_cases hn : i < n
    · simp only [mxK, List.getElem?_map, List.getElem?_range hn, Option.map_some]
      by_cases h2 : k ≤ i ∧ i < k + j
      · rw [if_pos h2, if_pos (by omega)]
      · rw [if_neg h2, if_neg (by omega)]
    · rw [List.getElem?_eq_none (by rw [mxK_len]; omega), List.getElem?_eq_none (by rw [mxK_len]; omega)]
theorem mxK_zero {f g : Nat → Int} {n k : Nat} : mxK f g n k 0 = zm ((List.range n).map g) := by
  simp only [mxK, zm, List.map_map]
  refine List.map_congr_left fun j hj => ?_
  simp only [Function.comp]
  rw [if_neg (by omega)]
section
variable (P0 : Blk) {co : List Value} {own : Bool} {o : List Int} (cc : Nat) (ho : PoC co o) (h60 : o.length ≤ 60)
include ho h60
theorem l65i (k n ql : Nat) (Qv : List Value) (g : Nat → Int) (s l : Int) (hn : k + o.length = n) (hn60 : n ≤ 60) (hb : ∀ j, j < o.length → Sm (l * o.getD j 0)) (hb2 : ∀ j, j < o.length → Sm (g (j + k) - l * o.getD j 0)) : ∀ (q j : Nat), j + q = o.length →
    lpB Try.prog LL ⟨65, 76, 2, none⟩ n65_32 n65_33 ⟨[(7, iv k), (8, iv l), (51, sl 1 0 o.length cc), (52, iv o.length), (53, iv j), (0, sl 2 0 n n), (1, sl 1 0 o.length cc), (4, sl 3 0 ql ql), (6, iv s)],
        [P0, .cells co 1 true own, .cells (mxK (fun i => g i - l * o.getD (i - k) 0) g n k j) 1 true true, .cells Qv 1 true true], []⟩ =
      some (.exit 2, ⟨[(0, sl 2 0 n n), (1, sl 1 0 o.length cc), (4, sl 3 0 ql ql), (6, iv s)], [P0, .cells co 1 true own, .cells (mxK (fun i => g i - l * o.getD (i - k) 0) g n k o.length) 1 true true, .cells Qv 1 true true], []⟩) := by
  intro q
  induction q with
  | zero =>
    intro j hj
    obtain rfl : j = o.length := by omega
    generalize mxK _ _ _ _ _ = X
    rw [lpB_eq]
    simp (maxSteps := 1000000) (disch := first | omega | decide | assumption | simp [scal]) [lenA_sl lk_71, o_indexAddrS es_71, loadA_eq ia_3, sz_3]
  | succ q ih =>
    intro j hj
    have e0 : j < o.length := by omega
    have e1 : (j : Int) < o.length := by omega
    have this := ih (j + 1) (by omega)
    have p1 := ho j e0
    have w1 := (hb j e0).w
    have w2 := (hb2 j e0).w
    have hset := mxK_set (f := fun i => g i - l * o.getD (i - k) 0) (g := g) (n := n) (k := k) (j := j) (by omega)
    simp only [Nat.add_sub_cancel] at hset
    have hl := mxK_len (f := fun i => g i - l * o.getD (i - k) 0) (g := g) (n := n) (k := k) (j := j)
    have p2 := mxK_get (f := fun i => g i - l * o.getD (i - k) 0) (g := g) (n := n) (k := k) (j := j) (i := j + k) (by omega) (by omega)
    rw [← hset] at this
    clear ih hset hb hb2
    simp only [cast1] at this
    have e2 : j + k < n := by omega
    have e3 : (j : Int) + (k : Int) < n := by omega
    have e4 : ((j : Int) + (k : Int)).toNat = j + k := by omega
    have e5 : 0 ≤ (j : Int) + (k : Int) := by omega
    have e6 : IntKind.i64.wrap ((j : Int) + (k : Int)) = (j : Int) + (k : Int) := wrap_i64_id (by omega) (by omega)
    generalize mxK _ _ _ _ j = R at *
    generalize mxK _ _ _ _ _ = X at *
    generalize o.getD j 0 = x at *
    generalize g (j + k) = y at *
    generalize j + k = jk at *
    have p3 : ∀ (h : jk < R.length), R[jk]'h = iv y := fun h => by rw [List.getElem?_eq_getElem h] at p2; exact Option.some.inj p2
    rw [lpB_eq]
    simp (maxSteps := 1000000) (disch := first | omega | decide | assumption | simp [scal]) [lenA_sl lk_71, o_indexAddrS es_71, loadA_eq ia_3, sz_3, e0, e1, e2, e3, e4, e5, e6, p1, p2, p3, w1, w2, hl, this]
end
end Go.Proofs.Ytkmompbfcgjgmaa.nt
namespace Go.Proofs.Ytkmompbfcgjgmaa.nt
open Go.GE
set_option linter.unusedVariables false
set_option linter.unusedSimpArgs false
set_option linter.unusedSectionVars false
set_option maxRecDepth 100000
set_option maxHeartbeats 4000000
attribute [local simp] runOps_nil runOps_cons runOpsF_nil runOpsF_cons fstS_some fstF_some opStep_eq want_none oStep_true oStep_false fin_pure fin_read fin_alloc fin_write storeB wrN cellV addWr o_move o_assign o_pick o_alloc o_box o_load o_store o_nilCheck o_bin o_un o_extract o_callV o_callB o_callI callV_f callV_y callV_fc o_makeFunc partsA Instr.fill builtin_len builtin_max2 bin_add bin_sub bin_mul bin_quo bin_rem bin_lss bin_leq bin_gtr bin_geq bin_eql bin_neq un_neg un_not bin_shr bin_shl wrap_u64_id opd opds optAll putO nbeq nblt constOk isC ops sub cl cr co bodyOf thenS_normal thenS_ret thenS_exit thenS_goto afterN_normal afterN_ret afterN_exit afterN_goto condS_true condS_false blockS_normal blockS_ret blockS_exit blockS_goto headS normS normK_eq fixS_nil fixS_cons fix1 fixV emptyB keepO_nil keepO_cons roundC_normal roundC_exit roundC_ret roundC_goto sweep_eq sweepD rnm pickR pickW rootsB ptrT renT ptrFn renFn ptrB_flat ptrB_non renB_flat renB_non plainS_some drawS_some fpsOk disj unord range' dropTo enumT undef wrap_i64_id Value.cells mkCells ptrTo scal cellsAt rdN endS_ret resultsA Option.bind_some tupV finish reachN dep ptrL_eq ptrL renL_eq renL ptrV_bool ptrV_int ptrV_string ptrV_nilFunc ptrV_nilIface ptrV_nilPtr ptrV_ptr ptrV_nilSl ptrV_sl ptrV_iface ptrV_agg ptrV_tuple ptrV_func renV_bool renV_int renV_string renV_nilFunc renV_nilIface renV_nilPtr renV_ptr renV_nilSl renV_sl renV_iface renV_agg renV_tuple renV_func gotoS_goto gotoS_normal gotoS_exit gotoS_ret skip_seq sliceE bnd bndHi intOf optOpd keepT_nil keepT_cons keepC_t keepC_f lk_nil lk_cons lkC_t lkC_f has_nil has_cons hasC_t hasC_f rep_nil rep_cons repC_t repC_f put_eq putC_t putC_f mem_nil mem_cons memC_t memC_f idx_nil idx_cons idxC_t idxC_f reach_nil reachP_cons reachQ_t reachQ_f ptrB_dead renB_dead ins_eq
attribute [local simp] n65_1s n65_3s n65_9s n65_11s n65_12s n65_10s n65_8s n65_15s n65_18s n65_20s n65_21s n65_19s n65_17s n65_23s n65_25s n65_27s n65_30s n65_34s n65_37s n65_38s n65_36s n65_42s n65_43s n65_41s n65_40s n65_44s n65_39s n65_35s n65_33s n65_32s n65_32g n65_31s n65_29s n65_45s n65_28s n65_26s n65_24s n65_22s n65_16s n65_14s n65_13s n65_7s n65_6s n65_6g n65_5s n65_47s n65_48s n65_46s n65_4s n65_2s n65_0s Try.f65
theorem zm_set {L : List Int} {i : Nat} {x : Int} : zm (L.set i x) = (zm L).set i (iv x) := by simp [zm, List.map_set]
theorem zm_get {L : List Int} {i : Nat} (h : i < L.length) : (zm L)[i]? = some (iv (L.getD i 0)) := by simp [zm, h]
theorem zm_rep {n : Nat} : List.replicate n (iv 0) = zm (List.replicate n 0) := by simp [zm]
theorem nil71_f {b n c : Nat} (h : c ≠ 0) : binA Try.prog .eql 71 true (sl b 0 n c) (.slice none 0 0) = some (.bool false) := by
  have e1 : Try.prog.underlying 71 = some (.slice 3) := by kernel_rfl
  simp [binA, eqA, e1, h]
theorem nil71_t : binA Try.prog .eql 71 true (.slice none 0 0) (.slice none 0 0) = some (.bool true) := by
  have e1 : Try.prog.underlying 71 = some (.slice 3) := by kernel_rfl
  simp [binA, eqA, e1]
/-- what a step wants -/
structure StB (p o q : List Int) : Prop where
  bp : ∀ i, i < p.length → Sm (p.getD i 0 * sz o)
  bq : ∀ i, i < q.length → Sm (q.getD i 0 * sz o)
  bl : Sm (lead p o)
  bk : p.length - o.length < q.length → Sm ((tms q (sz o)).getD (p.length - o.length) 0 + lead p o)
  blo : ∀ j, j < o.length → Sm (lead p o * o.getD j 0)
  bs : o.length ≤ p.length → ∀ j, j < o.length → Sm (p.getD (j + (p.length - o.length)) 0 * sz o - lead p o * o.getD j 0)
theorem tms_get {p : List Int} {m : Int} {i : Nat} (h : i < p.length) : (tms p m).getD i 0 = p.getD i 0 * m := by
  simp [tms, List.getD_eq_getElem?_getD, h]
theorem Sm_of {x : Int} (h : -4611686018427387904 ≤ x ∧ x ≤ 4611686018427387904) : Sm x := by unfold Sm; omega
theorem stp2_get {p o : List Int} {j : Nat} (h : o.length ≤ p.length) (hj : j < o.length) : (stp2 p o).getD (j + (p.length - o.length)) 0 = p.getD (j + (p.length - o.length)) 0 * sz o - lead p o * o.getD j 0 := by
  unfold stp2
  rw [List.getD_eq_getElem?_getD, List.getElem?_map, List.getElem?_range (by omega)]
  simp only [Option.map_some, Option.getD_some]
  rw [if_pos (by omega), Nat.add_sub_cancel]
theorem stB_of {p o q : List Int} (h : stpB p o q = true) : StB p o q := by
  unfold stpB at h
  simp only [Bool.and_eq_true, decide_eq_true_eq] at h
  obtain ⟨⟨⟨⟨⟨⟨⟨h1, h2⟩, h3⟩, h4⟩, h5⟩, h6⟩, h7⟩, h8⟩ := h
  refine ⟨fun i hi => ?_, fun i hi => ?_, ?_, fun hq => ?_, fun j hj => ?_, fun hl j hj => ?_⟩
  · rw [← tms_get hi]; exact Sm_of (allB_get h3 (by rw [tms_len]; exact hi))
  · rw [← tms_get hi]; exact Sm_of (allB_get h4 (by rw [tms_len]; exact hi))
  · exact Sm_of (by omega)
  · have := allB_get h6 (i := p.length - o.length) (by unfold stpQ; rw [List.length_set, tms_len]; exact hq)
    unfold stpQ at this
    rw [List.getD_eq_getElem?_getD, List.getElem?_set_self (by rw [tms_len]; exact hq)] at this
    exact Sm_of this
  · have := allB_get h7 (i := j) (by rw [tms_len]; exact hj)
    rw [tms_get hj, Int.mul_comm] at this
    exact Sm_of this
  · rw [← stp2_get hl hj]
    exact Sm_of (allB_get h8 (by rw [stp2_len]; omega))
theorem mx_stp2 {p o : List Int} (h : o.length ≤ p.length) : mxK (fun i => p.getD i 0 * sz o - lead p o * o.getD (i - (p.length - o.length)) 0) (fun i => p.getD i 0 * sz o) p.length (p.length - o.length) o.length = zm (stp2 p o) := by
  simp only [mxK, zm, stp2, List.map_map]
  refine List.map_congr_left fun i hi => ?_
  rw [List.mem_range] at hi
  simp only [Function.comp]
  by_cases hk : p.length - o.length ≤ i
  · rw [if_pos hk, if_pos (by omega)]
  · rw [if_neg hk, if_neg (by omega)]
theorem mx_tms {p o : List Int} : mxK (fun i => p.getD i 0 * sz o - lead p o * o.getD (i - (p.length - o.length)) 0) (fun i => p.getD i 0 * sz o) p.length (p.length - o.length) 0 = zm (tms p (sz o)) := mxK_zero
section
variable (P0 : Blk) {co : List Value} {own : Bool} {o : List Int} (cc : Nat) (ho : PoC co o) (h60 : o.length ≤ 60) (h0 : 0 < o.length)
include ho h60 h0
/-- a round: what is changed in it -/
theorem l65s (p q : List Int) (hp60 : p.length ≤ 60) (hle : o.length ≤ p.length) (hB : StB p o q) :
    lpB Try.prog LL ⟨65, 76, 2, none⟩ n65_32 n65_33 ⟨[(7, iv (p.length - o.length : Nat)), (8, iv (lead p o)), (51, sl 1 0 o.length cc), (52, iv o.length), (53, iv 0), (0, sl 2 0 p.length p.length), (1, sl 1 0 o.length cc), (4, sl 3 0 q.length q.length), (6, iv (sz o))],
        [P0, .cells co 1 true own, .cells (zm (tms p (sz o))) 1 true true, zB (stpQ p o q)], []⟩ =
      some (.exit 2, ⟨[(0, sl 2 0 p.length p.length), (1, sl 1 0 o.length cc), (4, sl 3 0 q.length q.length), (6, iv (sz o))], [P0, .cells co 1 true own, .cells (zm (stp2 p o)) 1 true true, zB (stpQ p o q)], []⟩) := by
  have := l65i P0 (own := own) cc ho h60 (p.length - o.length) p.length q.length (zm (stpQ p o q)) (fun i => p.getD i 0 * sz o) (sz o) (lead p o) (by omega) hp60 hB.blo (hB.bs hle) o.length 0 (by omega)
  rw [mx_stp2 hle, mx_tms] at this
  exact this
theorem l65r : ∀ (f : Nat) (C q : List Int) (k : Nat), k ≤ C.length → C.length ≤ 60 → k ≤ o.length - 1 + f → k < o.length + q.length → q.length ≤ 60 → ovrB f (C.take k) o q = true →
    ∃ (C' : List Int) (k' : Nat), k' ≤ C'.length ∧ C'.length ≤ 60 ∧ C'.take k' = (ovr f (C.take k) o q).2 ∧ (ovr f (C.take k) o q).1.length = q.length ∧
    lpB Try.prog LL ⟨65, 76, 2, none⟩ n65_6 n65_7 ⟨[(0, sl 2 0 k C.length), (1, sl 1 0 o.length cc), (4, sl 3 0 q.length q.length), (6, iv (sz o))], [P0, .cells co 1 true own, zB C, zB q], []⟩ =
      some (.exit 0, ⟨[(0, sl 2 0 k' C'.length), (4, sl 3 0 q.length q.length)], [P0, .cells co 1 true own, zB C', zB (ovr f (C.take k) o q).1], []⟩) := by
  intro f
  induction f with
  | zero =>
    intro C q k hk h1 h2 h3 h4 hb
    refine ⟨C, k, hk, h1, rfl, rfl, ?_⟩
    have e1 : ¬ (o.length : Int) ≤ k := by omega
    have e2 : ¬ o.length ≤ k := by omega
    simp only [ovr, zB]
    generalize zm C = CC
    generalize zm q = QQ
    rw [lpB_eq]
    simp (maxSteps := 1000000) (disch := first | omega | decide | assumption | simp [scal]) [lenA_sl lk_71, o_indexAddrS es_71, loadA_eq ia_3, sz_3, e1, e2]
  | succ f ih =>
    intro C q k hk h1 h2 h3 h4 hb
    have hpl : (C.take k).length = k := by rw [List.length_take]; omega
    by_cases hlt : k < o.length
    · have eb : Nat.blt (C.take k).length o.length = true := by rw [hpl, nblt]; simp [hlt]
      refine ⟨C, k, hk, h1, by simp only [ovr, eb, cond_true], by simp only [ovr, eb, cond_true], ?_⟩
      simp only [ovr, eb, cond_true, zB]
      have e1 : ¬ (o.length : Int) ≤ k := by omega
      have e2 : ¬ o.length ≤ k := by omega
      generalize zm C = CC
      generalize zm q = QQ
      rw [lpB_eq]
      simp (maxSteps := 1000000) (disch := first | omega | decide | assumption | simp [scal]) [lenA_sl lk_71, o_indexAddrS es_71, loadA_eq ia_3, sz_3, e1, e2]
    · have eb : Nat.blt (C.take k).length o.length = false := by rw [hpl, nblt]; simp; omega
      simp only [ovrB, eb, cond_false, Bool.and_eq_true] at hb
      have hB := stB_of hb.1
      have hle : o.length ≤ (C.take k).length := by omega
      have hdec := stpP_lt h0 hle
      obtain ⟨C', k', r1, r2, r3, r4, r5⟩ := ih (stp2 (C.take k) o) (stpQ (C.take k) o q) (trmN (stp2 (C.take k) o) k) (by rw [stp2_len, hpl]; exact trmN_le _) (by rw [stp2_len, hpl]; omega) (by
        have : (stpP (C.take k) o).length = trmN (stp2 (C.take k) o) k := by unfold stpP; rw [List.length_take, stp2_len, hpl]; have := trmN_le (p := stp2 (C.take k) o) k; omega
        omega) (by
        have := trmN_le (p := stp2 (C.take k) o) k
        have : (stpQ (C.take k) o q).length = q.length := by unfold stpQ; rw [List.length_set, tms_len]
        omega) (by unfold stpQ; rw [List.length_set, tms_len]; exact h4) (by
        have e : (stp2 (C.take k) o).take (trmN (stp2 (C.take k) o) k) = stpP (C.take k) o := by unfold stpP; rw [hpl]
        rw [e]; exact hb.2)
      have e : (stp2 (C.take k) o).take (trmN (stp2 (C.take k) o) k) = stpP (C.take k) o := by unfold stpP; rw [hpl]
      rw [e] at r3 r4 r5
      have ql : (stpQ (C.take k) o q).length = q.length := by unfold stpQ; rw [List.length_set, tms_len]
      rw [ql] at r4 r5
      refine ⟨C', k', r1, r2, by simp only [ovr, eb, cond_false]; exact r3, by simp only [ovr, eb, cond_false]; exact r4, ?_⟩
      simp only [ovr, eb, cond_false]
      generalize (ovr f (stpP (C.take k) o) o (stpQ (C.take k) o q)).1 = Z at *
      rw [stp2_len, hpl] at r5
      have ls := l65s P0 (own := own) cc ho h60 h0 (C.take k) q (by omega) hle hB
      have a67a := k67 2 C.length (p := C.take k) (h := [P0, .cells co 1 true own, zB C, zB q]) rfl (PoC_take PoC_zm) (by omega) (by omega)
      have a67b := k67 1 cc (h := [P0, .cells co 1 true own, zB C, zB q]) rfl ho h0 h60
      have a66a := k66 2 C.length (p := C.take k) (h := [P0, .cells co 1 true own, zB C, zB q]) rfl (PoC_take PoC_zm) (by omega) (sz o) hB.bp
      have a66b := fun X => k66 3 q.length (p := q) (h := [P0, .cells co 1 true own, zB C, zB q, X]) rfl PoC_zm h4 (sz o) hB.bq
      have a78 := k78 2 k (p := stp2 (C.take k) o) (h := [P0, .cells co 1 true own, zB (stp2 (C.take k) o), zB (stpQ (C.take k) o q)]) rfl PoC_zm k (by rw [stp2_len]; omega) (Nat.le_refl _) (by omega)
      have wl := hB.bl.w
      have wq := (hB.bk (by omega)).w
      have hql : (tms q (sz o)).length = q.length := tms_len
      have gq := zm_get (L := tms q (sz o)) (i := k - o.length) (by omega)
      have gz : (zm (tms q (sz o))).length = q.length := by rw [zm_len, tms_len]
      have hst : zm (stpQ (C.take k) o q) = (zm (tms q (sz o))).set (k - o.length) (iv ((tms q (sz o)).getD (k - o.length) 0 + lead (C.take k) o)) := by
        unfold stpQ; rw [hpl, zm_set]
      have ll : lst (C.take k) * sg (lst o) = lead (C.take k) o := rfl
      rw [hpl] at a67a a66a ls wq
      obtain ⟨d, hd⟩ : ∃ d, k - o.length = d := ⟨_, rfl⟩
      rw [hd] at ls wq gq hst
      have e1 : (o.length : Int) ≤ k := by omega
      have e2 : o.length ≤ k := by omega
      have e3 : (k : Int) - (o.length : Int) = d := by omega
      have e4 : IntKind.i64.wrap (d : Int) = d := wrap_i64_id (by omega) (by omega)
      have e5 : d < q.length := by omega
      have e5' : (d : Int) < q.length := by omega
      have gq3 : ∀ (h : d < (zm (tms q (sz o))).length), (zm (tms q (sz o)))[d]'h = iv ((tms q (sz o)).getD d 0) := fun h => by rw [List.getElem?_eq_getElem h] at gq; exact Option.some.inj gq
      clear ih hb r1 r2 r3 r4 hB eb hdec
      simp only [zB, hst] at ls a67a a67b a66a a66b a78 r5 ⊢
      generalize (tms q (sz o)).getD d 0 = qd at *
      generalize zm (tms q (sz o)) = TQ at *
      generalize zm (tms (C.take k) (sz o)) = TP at *
      generalize zm (stp2 (C.take k) o) = S2 at *
      generalize trmN (stp2 (C.take k) o) k = k2 at *
      generalize zm C = CC at *
      generalize zm C' = CC2 at *
      generalize zm Z = ZZ at *
      generalize zm q = QQ at *
      generalize lst (C.take k) = x1 at *
      generalize lst o = x2 at *
      rw [← ll] at wl wq ls r5 a78
      have a63 := fun h => k63 x2 h
      rw [lpB_eq]
      have e6 := nil71_f (b := 3) (n := q.length) (show q.length ≠ 0 by omega)
      simp (maxSteps := 1000000) (disch := first | omega | decide | assumption | simp [scal]) [lenA_sl lk_71, o_indexAddrS es_71, loadA_eq ia_3, sz_3, e1, e2, e3, e4, e5, e5', e6, a67a, a67b, a63, a66a, a66b, wl, wq, gq, gq3, gz, ls, a78, r5]
end
end Go.Proofs.Ytkmompbfcgjgmaa.nt
namespace Go.Proofs.Ytkmompbfcgjgmaa.nt
open Go.GE
set_option linter.unusedVariables false
set_option linter.unusedSimpArgs false
set_option linter.unusedSectionVars false
set_option maxRecDepth 100000
set_option maxHeartbeats 4000000
attribute [local simp] runOps_nil runOps_cons runOpsF_nil runOpsF_cons fstS_some fstF_some opStep_eq want_none oStep_true oStep_false fin_pure fin_read fin_alloc fin_write storeB wrN cellV addWr o_move o_assign o_pick o_alloc o_box o_load o_store o_nilCheck o_bin o_un o_extract o_callV o_callB o_callI callV_f callV_y callV_fc o_makeFunc partsA Instr.fill builtin_len builtin_max2 bin_add bin_sub bin_mul bin_quo bin_rem bin_lss bin_leq bin_gtr bin_geq bin_eql bin_neq un_neg un_not bin_shr bin_shl wrap_u64_id opd opds optAll putO nbeq nblt constOk isC ops sub cl cr co bodyOf thenS_normal thenS_ret thenS_exit thenS_goto afterN_normal afterN_ret afterN_exit afterN_goto condS_true condS_false blockS_normal blockS_ret blockS_exit blockS_goto headS normS normK_eq fixS_nil fixS_cons fix1 fixV emptyB keepO_nil keepO_cons roundC_normal roundC_exit roundC_ret roundC_goto sweep_eq sweepD rnm pickR pickW rootsB ptrT renT ptrFn renFn ptrB_flat ptrB_non renB_flat renB_non plainS_some drawS_some fpsOk disj unord range' dropTo enumT undef wrap_i64_id Value.cells mkCells ptrTo scal cellsAt rdN endS_ret resultsA Option.bind_some tupV finish reachN dep ptrL_eq ptrL renL_eq renL ptrV_bool ptrV_int ptrV_string ptrV_nilFunc ptrV_nilIface ptrV_nilPtr ptrV_ptr ptrV_nilSl ptrV_sl ptrV_iface ptrV_agg ptrV_tuple ptrV_func renV_bool renV_int renV_string renV_nilFunc renV_nilIface renV_nilPtr renV_ptr renV_nilSl renV_sl renV_iface renV_agg renV_tuple renV_func gotoS_goto gotoS_normal gotoS_exit gotoS_ret skip_seq sliceE bnd bndHi intOf optOpd keepT_nil keepT_cons keepC_t keepC_f lk_nil lk_cons lkC_t lkC_f has_nil has_cons hasC_t hasC_f rep_nil rep_cons repC_t repC_f put_eq putC_t putC_f mem_nil mem_cons memC_t memC_f idx_nil idx_cons idxC_t idxC_f reach_nil reachP_cons reachQ_t reachQ_f ptrB_dead renB_dead ins_eq
attribute [local simp] n65_1s n65_3s n65_9s n65_11s n65_12s n65_10s n65_8s n65_15s n65_18s n65_20s n65_21s n65_19s n65_17s n65_23s n65_25s n65_27s n65_30s n65_34s n65_37s n65_38s n65_36s n65_42s n65_43s n65_41s n65_40s n65_44s n65_39s n65_35s n65_33s n65_32s n65_32g n65_31s n65_29s n65_45s n65_28s n65_26s n65_24s n65_22s n65_16s n65_14s n65_13s n65_7s n65_6s n65_6g n65_5s n65_47s n65_48s n65_46s n65_4s n65_2s n65_0s Try.f65
/-- the division, run to its end -/
def ovF (p o : List Int) : List Int × List Int := ovr p.length p o (List.replicate (p.length - o.length + 1) 0)
/-- nothing is too great in it -/
def ovB (p o : List Int) : Bool := ovrB p.length p o (List.replicate (p.length - o.length + 1) 0) && allB (ovF p o).1 && allB (ovF p o).2
theorem allB_lt {L : List Int} (h : allB L = true) : ∀ x, x ∈ L → -9223372036854775808 < x ∧ x < 9223372036854775808 := fun x hx => by
  have := allB_mem h hx
  omega
section
variable (c cc : Nat) {cs co : List Value} {own own2 : Bool} {p o : List Int} (hp : PoC cs p) (ho : PoC co o) (hp60 : p.length ≤ 60) (h0 : 0 < o.length) (hle : o.length ≤ p.length) (hB : ovB p o = true)
include hp ho hp60 h0 hle hB
theorem l65f : ∃ (C' : List Int) (k' : Nat), k' ≤ C'.length ∧ C'.length ≤ 60 ∧ C'.take k' = (ovF p o).2 ∧ (ovF p o).1.length = p.length - o.length + 1 ∧
    lpB Try.prog LL ⟨65, 76, 2, none⟩ n65_6 n65_7 ⟨[(0, sl 0 0 p.length c), (1, sl 1 0 o.length cc), (4, .slice none 0 0), (6, iv (sz o))], [.cells cs 1 true own, .cells co 1 true own2], []⟩ =
      some (.exit 0, ⟨[(0, sl 2 0 k' C'.length), (4, sl 3 0 (p.length - o.length + 1) (p.length - o.length + 1))], [.cells cs 1 true own, .cells co 1 true own2, zB C', zB (ovF p o).1], []⟩) := by
  unfold ovB ovF at hB
  unfold ovF
  obtain ⟨f, hf⟩ : ∃ f, p.length = f + 1 := ⟨p.length - 1, by omega⟩
  obtain ⟨d, hd⟩ : ∃ d, p.length - o.length = d := ⟨_, rfl⟩
  have eb : Nat.blt p.length o.length = false := by rw [nblt]; simp; omega
  rw [hd] at hB ⊢
  rw [show ovrB p.length p o (List.replicate (d + 1) 0) = ovrB (f + 1) p o (List.replicate (d + 1) 0) by rw [hf], show ovr p.length p o (List.replicate (d + 1) 0) = ovr (f + 1) p o (List.replicate (d + 1) 0) by rw [hf]] at hB
  rw [show ovr p.length p o (List.replicate (d + 1) 0) = ovr (f + 1) p o (List.replicate (d + 1) 0) by rw [hf]]
  simp only [ovrB, ovr, eb, cond_false, Bool.and_eq_true] at hB ⊢
  obtain ⟨⟨⟨b1, b2⟩, b3⟩, b4⟩ := hB
  obtain ⟨q, hq⟩ : ∃ q, List.replicate (d + 1) (0 : Int) = q := ⟨_, rfl⟩
  have hql : q.length = d + 1 := by rw [← hq]; simp
  have hqz : List.replicate (d + 1) (iv 0) = zm q := by rw [← hq, zm_rep]
  rw [hq] at b1 b2 b3 b4 ⊢
  have hS := stB_of b1
  have hdec := stpP_lt h0 hle
  have e0 : (stp2 p o).take (trmN (stp2 p o) p.length) = stpP p o := by unfold stpP; rfl
  obtain ⟨C', k', r1, r2, r3, r4, r5⟩ := l65r (.cells cs 1 true own) (own := own2) cc ho (by omega) h0 f (stp2 p o) (stpQ p o q) (trmN (stp2 p o) p.length) (by rw [stp2_len]; exact trmN_le _) (by rw [stp2_len]; omega) (by
      have : (stpP p o).length = trmN (stp2 p o) p.length := by unfold stpP; rw [List.length_take, stp2_len]; have := trmN_le (p := stp2 p o) p.length; omega
      omega) (by
      have := trmN_le (p := stp2 p o) p.length
      have : (stpQ p o q).length = q.length := by unfold stpQ; rw [List.length_set, tms_len]
      omega) (by unfold stpQ; rw [List.length_set, tms_len]; omega) (by rw [e0]; exact b2)
  rw [e0] at r3 r4 r5
  have ql : (stpQ p o q).length = q.length := by unfold stpQ; rw [List.length_set, tms_len]
  rw [ql, hql] at r4 r5
  refine ⟨C', k', r1, r2, r3, r4, ?_⟩
  generalize (ovr f (stpP p o) o (stpQ p o q)).1 = Z at *
  rw [stp2_len] at r5
  have ls := l65s (.cells cs 1 true own) (own := own2) cc ho (by omega) h0 p q (by omega) hle hS
  have a67a := fun R => k67 0 c (p := p) (h := .cells cs 1 true own :: R) rfl hp (by omega) (by omega)
  have a67b := fun R => k67 1 cc (h := .cells cs 1 true own :: .cells co 1 true own2 :: R) rfl ho h0 (by omega)
  have a66a := fun R => k66 0 c (p := p) (h := .cells cs 1 true own :: R) rfl hp (by omega) (sz o) hS.bp
  have a66b := fun X => k66 2 q.length (p := q) (h := [.cells cs 1 true own, .cells co 1 true own2, zB q, X]) rfl PoC_zm (by omega) (sz o) hS.bq
  have a78 := k78 2 p.length (p := stp2 p o) (h := [.cells cs 1 true own, .cells co 1 true own2, zB (stp2 p o), zB (stpQ p o q)]) rfl PoC_zm p.length (by rw [stp2_len]; omega) (Nat.le_refl _) (by omega)
  have wl := hS.bl.w
  have wq := (hS.bk (by omega)).w
  have hql2 : (tms q (sz o)).length = q.length := tms_len
  have gq := zm_get (L := tms q (sz o)) (i := d) (by omega)
  have gz : (zm (tms q (sz o))).length = d + 1 := by rw [zm_len, tms_len, hql]
  have hst : zm (stpQ p o q) = (zm (tms q (sz o))).set d (iv ((tms q (sz o)).getD d 0 + lead p o)) := by
    unfold stpQ; rw [hd, zm_set]
  have ll : lst p * sg (lst o) = lead p o := rfl
  rw [hd] at ls wq
  rw [hql] at ls a66b
  have e1 : (o.length : Int) ≤ p.length := by omega
  have e2 : o.length ≤ p.length := hle
  have e3 : (p.length : Int) - (o.length : Int) = d := by omega
  have e4 : IntKind.i64.wrap (d : Int) = d := wrap_i64_id (by omega) (by omega)
  have e5 : d < d + 1 := by omega
  have e5' : (d : Int) < (d : Int) + 1 := by omega
  have e7 : (0 : Int) ≤ (d : Int) + 1 := by omega
  have e8 : ((d : Int) + 1).toNat = d + 1 := by omega
  have e9 : ((d : Int) + 1) * 8 ≤ 70368744177664 ∧ (d : Int) + 1 ≤ 70368744177664 := by omega
  obtain ⟨e9, e10⟩ := e9
  have gq3 : ∀ (h : d < (zm (tms q (sz o))).length), (zm (tms q (sz o)))[d]'h = iv ((tms q (sz o)).getD d 0) := fun h => by rw [List.getElem?_eq_getElem h] at gq; exact Option.some.inj gq
  clear b1 b2 b3 b4 r1 r2 r3 r4 hS eb hdec hq
  simp only [zB, hst] at ls a67a a67b a66a a66b a78 r5 ⊢
  generalize (tms q (sz o)).getD d 0 = qd at *
  generalize zm (tms q (sz o)) = TQ at *
  generalize zm (tms p (sz o)) = TP at *
  generalize zm (stp2 p o) = S2 at *
  generalize trmN (stp2 p o) p.length = k2 at *
  generalize zm C' = CC2 at *
  generalize zm Z = ZZ at *
  generalize zm q = QQ at *
  generalize lst p = x1 at *
  generalize lst o = x2 at *
  rw [← ll] at wl wq ls r5 a78
  have a63 := fun h => k63 x2 h
  rw [lpB_eq]
  simp (maxSteps := 1000000) (disch := first | omega | decide | assumption | simp [scal]) [lenA_sl lk_71, o_indexAddrS es_71, loadA_eq ia_3, sz_3, e1, e2, e3, e4, e5, e5', e7, e8, e9, e10, nil71_t, mk71, hqz, a67a, a67b, a63, a66a, a66b, wl, wq, gq, gq3, gz, ls, a78, r5]
end
section
variable (b b2 c cc : Nat) {cs co : List Value} {own own2 : Bool} {p o : List Int} {h : List Blk} (hb : h[b]? = some (.cells cs 1 true own)) (hb2 : h[b2]? = some (.cells co 1 true own2)) (hne : b ≠ b2) (hp : PoC cs p) (ho : PoC co o)
include hb hb2 hne hp ho
theorem k65 (hp60 : p.length ≤ 60) (h0 : 0 < o.length) (hle : o.length ≤ p.length) (hB : ovB p o = true) :
    callH LL 65 [sl b 0 p.length c, sl b2 0 o.length cc] h = some ⟨.tuple #[sl h.length 0 (dgP (ovF p o).1) (dgP (ovF p o).1), sl (h.length + 1) 0 (dgP (ovF p o).2) (dgP (ovF p o).2)], h ++ [zB (lea (ovF p o).1), zB (lea (ovF p o).2)], [b, b2], []⟩ := by
  have hne' : ¬ b2 = b := fun e => hne e.symm
  refine callN_2 rfl hb hb2 hne noIdB_flat noIdB_flat (args' := [sl 0 0 p.length c, sl 1 0 o.length cc]) (by simp [renV, dep, optAll, idx, nbeq, hne, hne']) (v := .tuple #[sl 2 0 (dgP (ovF p o).1) (dgP (ovF p o).1), sl 3 0 (dgP (ovF p o).2) (dgP (ovF p o).2)]) (news := [zB (lea (ovF p o).1), zB (lea (ovF p o).2)]) (go (by decide) ?_)
    (by intro blk hb; simp only [List.mem_cons, List.not_mem_nil, or_false] at hb; rcases hb with rfl | rfl <;> exact noIdB_flat) (by simp [renV, dep, optAll])
  obtain ⟨C', k', r1, r2, r3, r4, r5⟩ := l65f c cc (own := own) (own2 := own2) hp ho hp60 h0 hle hB
  have hBB := hB
  unfold ovB at hBB
  simp only [Bool.and_eq_true] at hBB
  obtain ⟨⟨b1, b2'⟩, b3⟩ := hBB
  have hkl : (C'.take k').length = k' := by rw [List.length_take]; omega
  have a71a := fun R => k71 3 (p.length - o.length + 1) (p := (ovF p o).1) (h := [.cells cs 1 true own, .cells co 1 true own2, zB C', zB (ovF p o).1]) rfl PoC_zm (by omega) (allB_lt b2')
  have a71b := fun X => k71 2 C'.length (p := C'.take k') (h := [.cells cs 1 true own, .cells co 1 true own2, zB C', zB (ovF p o).1, X]) rfl (PoC_take PoC_zm) (by omega) (by rw [r3]; exact allB_lt b3)
  rw [hkl, r3] at a71b
  rw [r4] at a71a
  have a67b := fun R => k67 1 cc (h := .cells cs 1 true own :: .cells co 1 true own2 :: R) rfl ho h0 (by omega)
  have ob : allB o = true := by
    obtain ⟨f, hf⟩ : ∃ f, p.length = f + 1 := ⟨p.length - 1, by omega⟩
    have eb : Nat.blt p.length o.length = false := by rw [nblt]; simp; omega
    rw [show ovrB p.length p o (List.replicate (p.length - o.length + 1) 0) = ovrB (f + 1) p o (List.replicate (p.length - o.length + 1) 0) by rw [← hf]] at b1
    simp only [ovrB, eb, cond_false, Bool.and_eq_true] at b1
    have := b1.1
    unfold stpB at this
    simp only [Bool.and_eq_true] at this
    exact this.1.1.1.1.1.1.2
  have hx := allB_get ob (i := o.length - 1) (by omega)
  rw [show o.getD (o.length - 1) 0 = lst o from rfl] at hx
  have hsz : sz o = ((lst o).natAbs : Int) := rfl
  have w1 : IntKind.i64.wrap (-(lst o)) = -(lst o) := wrap_i64_id (by omega) (by omega)
  simp only [zB] at a71a a71b r5 ⊢
  generalize dgP (ovF p o).1 = d1 at *
  generalize dgP (ovF p o).2 = d2 at *
  generalize zm (lea (ovF p o).1) = L1 at *
  generalize zm (lea (ovF p o).2) = L2 at *
  generalize zm (ovF p o).1 = F1 at *
  generalize zm C' = CC at *
  rw [hsz] at r5
  clear hsz r1 r2 r3 r4 hB b1 b2' b3 ob
  generalize lst o = x at *
  rw [run65 _ _ _ (by simp)]
  by_cases h1 : x < -x
  · have e3 : ((x.natAbs : Nat) : Int) = -x := by omega
    rw [e3] at r5
    simp (maxSteps := 1000000) (disch := first | omega | decide | assumption | simp [scal]) [lenA_sl lk_71, o_indexAddrS es_71, loadA_eq ia_3, sz_3, a67b, h1, w1, r5, a71a, a71b]
  · have e3 : ((x.natAbs : Nat) : Int) = x := by omega
    rw [e3] at r5
    simp (maxSteps := 1000000) (disch := first | omega | decide | assumption | simp [scal]) [lenA_sl lk_71, o_indexAddrS es_71, loadA_eq ia_3, sz_3, a67b, h1, w1, r5, a71a, a71b]
end
end Go.Proofs.Ytkmompbfcgjgmaa.nt
namespace Go.Proofs.Ytkmompbfcgjgmaa.nt
open Go.GE
set_option linter.unusedVariables false
set_option linter.unusedSimpArgs false
set_option linter.unusedSectionVars false
set_option maxRecDepth 100000
set_option maxHeartbeats 4000000
attribute [local simp] runOps_nil runOps_cons runOpsF_nil runOpsF_cons fstS_some fstF_some opStep_eq want_none oStep_true oStep_false fin_pure fin_read fin_alloc fin_write storeB wrN cellV addWr o_move o_assign o_pick o_alloc o_box o_load o_store o_nilCheck o_bin o_un o_extract o_callV o_callB o_callI callV_f callV_y callV_fc o_makeFunc partsA Instr.fill builtin_len builtin_max2 bin_add bin_sub bin_mul bin_quo bin_rem bin_lss bin_leq bin_gtr bin_geq bin_eql bin_neq un_neg un_not bin_shr bin_shl wrap_u64_id opd opds optAll putO nbeq nblt constOk isC ops sub cl cr co bodyOf thenS_normal thenS_ret thenS_exit thenS_goto afterN_normal afterN_ret afterN_exit afterN_goto condS_true condS_false blockS_normal blockS_ret blockS_exit blockS_goto headS normS normK_eq fixS_nil fixS_cons fix1 fixV emptyB keepO_nil keepO_cons roundC_normal roundC_exit roundC_ret roundC_goto sweep_eq sweepD rnm pickR pickW rootsB ptrT renT ptrFn renFn ptrB_flat ptrB_non renB_flat renB_non plainS_some drawS_some fpsOk disj unord range' dropTo enumT undef wrap_i64_id Value.cells mkCells ptrTo scal cellsAt rdN endS_ret resultsA Option.bind_some tupV finish reachN dep ptrL_eq ptrL renL_eq renL ptrV_bool ptrV_int ptrV_string ptrV_nilFunc ptrV_nilIface ptrV_nilPtr ptrV_ptr ptrV_nilSl ptrV_sl ptrV_iface ptrV_agg ptrV_tuple ptrV_func renV_bool renV_int renV_string renV_nilFunc renV_nilIface renV_nilPtr renV_ptr renV_nilSl renV_sl renV_iface renV_agg renV_tuple renV_func gotoS_goto gotoS_normal gotoS_exit gotoS_ret skip_seq sliceE bnd bndHi intOf optOpd keepT_nil keepT_cons keepC_t keepC_f lk_nil lk_cons lkC_t lkC_f has_nil has_cons hasC_t hasC_f rep_nil rep_cons repC_t repC_f put_eq putC_t putC_f mem_nil mem_cons memC_t memC_f idx_nil idx_cons idxC_t idxC_f reach_nil reachP_cons reachQ_t reachQ_f ptrB_dead renB_dead ins_eq
attribute [local simp] n59_1s n59_4s n59_7s n59_8s n59_6s n59_9s n59_5s n59_3s n59_11s n59_13s n59_14s n59_12s n59_10s n59_2s n59_0s Try.f59 n41_1s n41_3s n41_5s n41_6s n41_4s n41_2s n41_0s Try.f41
theorem sm_tms {p : List Int} {m : Int} (h : allB (tms p m) = true) : ∀ i, i < p.length → Sm (p.getD i 0 * m) := fun i hi => by
  rw [← tms_get hi]; exact Sm_of (allB_get h (by rw [tms_len]; exact hi))
theorem sm_slp {p : List Int} (h : allB (slp p) = true) : ∀ i, i < p.length - 1 → Sm (p.getD (i + 1) 0 * ((i : Int) + 1)) := fun i hi => by
  have := allB_get h (i := i) (by rw [slp_len]; exact hi)
  have e : (slp p).getD i 0 = p.getD (i + 1) 0 * ((i : Int) + 1) := by simp [slp, List.getD_eq_getElem?_getD, hi]
  rw [e] at this
  exact Sm_of this
/-- the greatest common divisor of polynomials -/
def cmn : Nat → List Int → List Int → List Int
  | 0, p, _ => lea p
  | f + 1, p, o => bif Nat.beq o.length 0 then lea p else cmn f o (lea (ovF p o).2)
def cmnB : Nat → List Int → List Int → Bool
  | 0, _, _ => false
  | f + 1, p, o => bif Nat.beq o.length 0 then allB p else Nat.ble o.length p.length && ovB p o && cmnB f o (lea (ovF p o).2)
theorem k59 : ∀ (f : Nat) (p o : List Int) (b b2 c cc : Nat) (cs co : List Value) (own own2 : Bool) (h : List Blk), h[b]? = some (.cells cs 1 true own) → h[b2]? = some (.cells co 1 true own2) → b ≠ b2 → PoC cs p → PoC co o → p.length ≤ 60 → o.length ≤ 60 → cmnB f p o = true →
    callH LL 59 [sl b 0 p.length c, sl b2 0 o.length cc] h = some ⟨sl h.length 0 (cmn f p o).length (cmn f p o).length, h ++ [zB (cmn f p o)], [b, b2], []⟩ := by
  intro f
  induction f with
  | zero => intro p o b b2 c cc cs co own own2 h _ _ _ _ _ _ _ hB; cases hB
  | succ f ih =>
    intro p o b b2 c cc cs co own own2 h hb hb2 hne hp ho hp60 ho60 hB
    have hne' : ¬ b2 = b := fun e => hne e.symm
    refine callN_2 rfl hb hb2 hne noIdB_flat noIdB_flat (args' := [sl 0 0 p.length c, sl 1 0 o.length cc]) (by simp [renV, dep, optAll, idx, nbeq, hne, hne']) (v := sl 2 0 (cmn (f + 1) p o).length (cmn (f + 1) p o).length) (news := [zB (cmn (f + 1) p o)]) (go (by decide) ?_)
      (by intro blk hb; simp only [List.mem_singleton] at hb; subst hb; exact noIdB_flat) (by simp [renV, dep])
    by_cases h0 : o.length = 0
    · have eb : Nat.beq o.length 0 = true := by rw [h0]; rfl
      simp only [cmn, cmnB, eb, cond_true] at hB ⊢
      have a71 := fun R => k71 0 c (p := p) (h := .cells cs 1 true own :: R) rfl hp hp60 (allB_lt hB)
      rw [lea_len, h0]
      simp only [zB] at a71 ⊢
      generalize zm (lea p) = L at *
      generalize dgP p = k at *
      rw [run59 _ _ _ (by simp)]
      simp (maxSteps := 1000000) (disch := first | omega | decide | assumption | simp [scal]) [lenA_sl lk_71, a71]
    · have eb : Nat.beq o.length 0 = false := by rw [nbeq]; simp [h0]
      simp only [cmn, cmnB, eb, cond_false, Bool.and_eq_true] at hB ⊢
      obtain ⟨⟨hle, hov⟩, hc⟩ := hB
      have hle : o.length ≤ p.length := Nat.le_of_ble_eq_true hle
      have a65 := fun R => k65 0 1 c cc (p := p) (o := o) (h := .cells cs 1 true own :: .cells co 1 true own2 :: R) rfl rfl (by decide) hp ho hp60 (by omega) hle hov
      have hl4 : (lea (ovF p o).2).length ≤ 60 := by
        obtain ⟨C', k', r1, r2, r3, r4, r5⟩ := l65f c cc (own := own) (own2 := own2) hp ho hp60 (by omega) hle hov
        have := dgP_le (p := (ovF p o).2)
        rw [lea_len]
        rw [← r3] at this ⊢
        rw [List.length_take] at this
        omega
      have a59 := ih o (lea (ovF p o).2) 1 3 cc (dgP (ovF p o).2) co (zm (lea (ovF p o).2)) own2 true [.cells cs 1 true own, .cells co 1 true own2, zB (lea (ovF p o).1), zB (lea (ovF p o).2)] rfl rfl (by decide) ho PoC_zm ho60 hl4 hc
      rw [lea_len] at a59
      have h0' : ¬ (o.length : Int) = 0 := by omega
      have a65' := a65 []
      clear ih a65
      simp only [zB] at a59 a65' ⊢
      generalize cmn f o _ = R at *
      generalize zm (lea (ovF p o).1) = L1 at *
      generalize zm (lea (ovF p o).2) = L2 at *
      generalize zm R = L3 at *
      generalize dgP (ovF p o).1 = d1 at *
      generalize dgP (ovF p o).2 = d2 at *
      rw [run59 _ _ _ (by simp)]
      simp (maxSteps := 1000000) (disch := first | omega | decide | assumption | simp [scal]) [lenA_sl lk_71, h0, h0', a65', a59]
/-- the core -/
def corG (p : List Int) : List Int := cmn 5 p (slp p)
def corQ (p : List Int) : List Int := lea (ovF p (corG p)).1
def cor (p : List Int) : List Int := tms (corQ p) (sg (lst (corQ p)))
def corB (p : List Int) : Bool := Nat.ble 2 p.length && Nat.ble p.length 60 && allB p && allB (slp p) && cmnB 5 p (slp p) && Nat.ble 1 (corG p).length && Nat.ble (corG p).length p.length && ovB p (corG p) && Nat.ble 1 (corQ p).length && Nat.ble (corQ p).length 60 && allB (cor p)
section
variable (b c : Nat) {cs : List Value} {own : Bool} {p : List Int} {h : List Blk} (hb : h[b]? = some (.cells cs 1 true own)) (hp : PoC cs p)
include hb hp
theorem k41 (hB : corB p = true) : callH LL 41 [sl b 0 p.length c] h = some ⟨sl h.length 0 (cor p).length (cor p).length, h ++ [zB (cor p)], [b], []⟩ := by
  refine callN_1 rfl hb noIdB_flat (args' := [sl 0 0 p.length c]) (by simp [renV, dep, optAll, idx, nbeq]) (v := sl 1 0 (cor p).length (cor p).length) (news := [zB (cor p)]) (go (by decide) ?_) (by intro blk hb; simp only [List.mem_singleton] at hb; subst hb; exact noIdB_flat) (by simp [renV, dep])
  unfold corB at hB
  simp only [Bool.and_eq_true] at hB
  obtain ⟨⟨⟨⟨⟨⟨⟨⟨⟨⟨c1, c2⟩, c3⟩, c4⟩, c5⟩, c6⟩, c7⟩, c8⟩, c9⟩, c10⟩, c11⟩ := hB
  have c1 := Nat.le_of_ble_eq_true c1
  have c2 := Nat.le_of_ble_eq_true c2
  have c6 := Nat.le_of_ble_eq_true c6
  have c7 := Nat.le_of_ble_eq_true c7
  have c9 := Nat.le_of_ble_eq_true c9
  have c10 := Nat.le_of_ble_eq_true c10
  have a54 := k54 0 c (p := p) (h := [.cells cs 1 true own]) rfl hp (by omega) (by omega) (sm_slp c4)
  have a59 := k59 5 p (slp p) 0 1 c (p.length - 1) cs (zm (slp p)) own true [.cells cs 1 true own, zB (slp p)] rfl rfl (by decide) hp PoC_zm (by omega) (by rw [slp_len]; omega) c5
  rw [slp_len] at a59
  rw [show cmn 5 p (slp p) = corG p from rfl] at a59
  have a65 := k65 0 2 c (corG p).length (p := p) (o := corG p) (h := [.cells cs 1 true own, zB (slp p), zB (corG p)]) rfl rfl (by decide) hp PoC_zm (by omega) (by omega) c7 c8
  rw [show lea (ovF p (corG p)).1 = corQ p from rfl] at a65
  have a67 := k67 3 (corQ p).length (p := corQ p) (h := [.cells cs 1 true own, zB (slp p), zB (corG p), zB (corQ p), zB (lea (ovF p (corG p)).2)]) rfl PoC_zm (by omega) (by omega)
  have a66 := k66 3 (corQ p).length (p := corQ p) (h := [.cells cs 1 true own, zB (slp p), zB (corG p), zB (corQ p), zB (lea (ovF p (corG p)).2)]) rfl PoC_zm (by omega) (sg (lst (corQ p))) (sm_tms c11)
  have a63 := fun h => k63 (lst (corQ p)) h
  have el : (cor p).length = (corQ p).length := tms_len
  have el2 : (corQ p).length = dgP (ovF p (corG p)).1 := lea_len
  rw [show tms (corQ p) (sg (lst (corQ p))) = cor p from rfl] at a66
  rw [el]
  rw [el2] at a66 a67 ⊢
  clear el el2 c1 c2 c3 c4 c5 c6 c7 c8 c9 c10 c11
  simp only [zB] at a54 a59 a65 a67 a66 ⊢
  generalize lst (corQ p) = x at *
  generalize zm (cor p) = L1 at *
  generalize zm (corQ p) = L2 at *
  generalize zm (corG p) = L3 at *
  generalize zm (slp p) = L4 at *
  generalize (corG p).length = gl at *
  generalize zm (lea (ovF p (corG p)).2) = L5 at *
  generalize dgP (ovF p (corG p)).1 = d1 at *
  generalize dgP (ovF p (corG p)).2 = d2 at *
  generalize p.length - 1 = p1 at *
  rw [run41 _ _ _ (by simp)]
  simp (maxSteps := 1000000) (disch := first | omega | decide | assumption | simp [scal]) [a54, a59, a65, a67, a63, a66]
end
end Go.Proofs.Ytkmompbfcgjgmaa.nt
namespace Go.Proofs.Ytkmompbfcgjgmaa.nt
open Go.GE
set_option linter.unusedVariables false
set_option linter.unusedSimpArgs false
set_option linter.unusedSectionVars false
set_option maxRecDepth 100000
set_option maxHeartbeats 4000000
attribute [local simp] runOps_nil runOps_cons runOpsF_nil runOpsF_cons fstS_some fstF_some opStep_eq want_none oStep_true oStep_false fin_pure fin_read fin_alloc fin_write storeB wrN cellV addWr o_move o_assign o_pick o_alloc o_box o_load o_store o_nilCheck o_bin o_un o_extract o_callV o_callB o_callI callV_f callV_y callV_fc o_makeFunc partsA Instr.fill builtin_len builtin_max2 bin_add bin_sub bin_mul bin_quo bin_rem bin_lss bin_leq bin_gtr bin_geq bin_eql bin_neq un_neg un_not bin_shr bin_shl wrap_u64_id opd opds optAll putO nbeq nblt constOk isC ops sub cl cr co bodyOf thenS_normal thenS_ret thenS_exit thenS_goto afterN_normal afterN_ret afterN_exit afterN_goto condS_true condS_false blockS_normal blockS_ret blockS_exit blockS_goto headS normS normK_eq fixS_nil fixS_cons fix1 fixV emptyB keepO_nil keepO_cons roundC_normal roundC_exit roundC_ret roundC_goto sweep_eq sweepD rnm pickR pickW rootsB ptrT renT ptrFn renFn ptrB_flat ptrB_non renB_flat renB_non plainS_some drawS_some fpsOk disj unord range' dropTo enumT undef wrap_i64_id Value.cells mkCells ptrTo scal cellsAt rdN endS_ret resultsA Option.bind_some tupV finish reachN dep ptrL_eq ptrL renL_eq renL ptrV_bool ptrV_int ptrV_string ptrV_nilFunc ptrV_nilIface ptrV_nilPtr ptrV_ptr ptrV_nilSl ptrV_sl ptrV_iface ptrV_agg ptrV_tuple ptrV_func renV_bool renV_int renV_string renV_nilFunc renV_nilIface renV_nilPtr renV_ptr renV_nilSl renV_sl renV_iface renV_agg renV_tuple renV_func gotoS_goto gotoS_normal gotoS_exit gotoS_ret skip_seq sliceE bnd bndHi intOf optOpd keepT_nil keepT_cons keepC_t keepC_f lk_nil lk_cons lkC_t lkC_f has_nil has_cons hasC_t hasC_f rep_nil rep_cons repC_t repC_f put_eq putC_t putC_f mem_nil mem_cons memC_t memC_f idx_nil idx_cons idxC_t idxC_f reach_nil reachP_cons reachQ_t reachQ_f ptrB_dead renB_dead ins_eq
attribute [local simp] n62_1s n62_3s n62_4s n62_2s n62_0s Try.f62 n38_1s n38_3s n38_6s n38_9s n38_12s n38_13s n38_11s n38_10s n38_7s n38_5s n38_15s n38_16s n38_14s n38_4s n38_2s n38_0s Try.f38
abbrev c1 (n : Int) : Blk := .cells [iv n] 1 true true
abbrev bxP (b n c : Nat) : Blk := .cells [sl b 0 n c] 1 false true
abbrev bxR (x y : Int) : Blk := .cells [iv x, iv y] 1 true true
theorem k62 (n c : Nat) {cs : List Value} {own : Bool} (R : List Blk) : callH LL 62 [sl 0 0 n c] (.cells cs 1 true own :: R) = some ⟨.func (.func 77) #[] #[pp (R.length + 1)], .cells cs 1 true own :: (R ++ [bxP 0 n c]), [0], []⟩ := by
  have e : LL.run 62 [sl 0 0 n c] [.cells cs 1 true own] = some ⟨.func (.func 77) #[] #[pp 1], [.cells [sl 0 0 n c] 1 false true], []⟩ := by
    refine go (by decide) ?_
    rw [run62 _ _ _ (by simp)]
    simp (maxSteps := 1000000) (disch := first | omega | decide | assumption | simp [scal])
  refine callH_of (by intro _; first | trivial | rfl) ?_ (by simp)
  unfold callH0
  have hp : ([sl 0 0 n c] : List Value).flatMap (ptrV dep) = [0] := rfl
  rw [hp, reach_one (h := .cells cs 1 true own :: R) rfl rfl (by decide)]
  simp [optAll, renB, e, mergeB, renV_func, renFn, renL, renV_ptr, renL_eq, renV_int, renV_sl, dep, nblt, idx, nbeq]
/-- the value at a fraction, times a power of the denominator: the highest coefficient first -/
def evS (x y : Int) : List Int → Int → Int → Int
  | [], s, _ => s
  | c :: r, s, w => evS x y r (s * x + c * w) (w * y)
def evW (y : Int) : List Int → Int → Int
  | [], w => w
  | _ :: r, w => evW y r (w * y)
def okI (x : Int) : Bool := decide (x.natAbs ≤ 4611686018427387904)
theorem okI_sm {x : Int} (h : okI x = true) : Sm x := by
  unfold okI at h
  rw [decide_eq_true_eq] at h
  unfold Sm; omega
def evB (x y : Int) : List Int → Int → Int → Bool
  | [], _, _ => true
  | c :: r, s, w => okI (s * x) && okI (c * w) && okI (s * x + c * w) && okI (w * y) && evB x y r (s * x + c * w) (w * y)
noncomputable def lp38 (a b d : Nat) : ALoop := ⟨.ready, none, 38, [(6, pp a), (5, pp b), (3, pp d)], 27, #[11, 12], n38_9, n38_10⟩
section
variable (x y : Int)
theorem r38 (i v s w : Int) (h1 : okI (s * x) = true) (h2 : okI (v * w) = true) (h3 : okI (s * x + v * w) = true) (h4 : okI (w * y) = true) :
    LL.rnd 0 [iv i, iv v] [.loop (lp38 1 2 3), c1 w, c1 s, bxR x y] = some ⟨.bool true, [], [(0, .loop (lp38 1 2 3)), (2, c1 (s * x + v * w)), (1, c1 (w * y))]⟩ := by
  have w1 := (okI_sm h1).w
  have w2 := (okI_sm h2).w
  have w3 := (okI_sm h3).w
  have w4 := (okI_sm h4).w
  clear h1 h2 h3 h4
  rw [show LL = L Try.prog (wk.wtab.keep kpT) from rfl, L_rnd_eq]
  have e1 : codeB Try.prog LL ⟨38, 27, 4, some 0⟩ n38_9 ⟨[(12, iv v), (11, iv i), (6, pp 1), (5, pp 2), (3, pp 3)], [.loop (lp38 1 2 3), c1 w, c1 s, bxR x y], []⟩ =
      some (.normal, ⟨[(8, iv v), (12, iv v), (11, iv i), (6, pp 1), (5, pp 2), (3, pp 3)], [.loop (lp38 1 2 3), c1 w, c1 s, bxR x y], []⟩) := by
    simp (maxSteps := 1000000) (disch := first | omega | decide | assumption | simp [scal]) [za_3, sz_3, loadA_eq ia_3, o_fieldAddr fa_24_0 (by decide), o_fieldAddr fa_24_1 (by decide)]
  have e2 : codeB Try.prog LL ⟨38, 27, 4, some 0⟩ n38_10 ⟨[(8, iv v), (12, iv v), (11, iv i), (6, pp 1), (5, pp 2), (3, pp 3)], [.loop { lp38 1 2 3 with state := .busy }, c1 w, c1 s, bxR x y], [0]⟩ =
      some (.normal, ⟨[(8, iv v), (12, iv v), (11, iv i), (6, pp 1), (5, pp 2), (3, pp 3)], [.loop { lp38 1 2 3 with state := .busy }, c1 (w * y), c1 (s * x + v * w), bxR x y], [0, 2, 1]⟩) := by
    simp (maxSteps := 1000000) (disch := first | omega | decide | assumption | simp [scal]) [za_3, sz_3, loadA_eq ia_3, o_fieldAddr fa_24_0 (by decide), o_fieldAddr fa_24_1 (by decide), w1, w2, w3, w4, ins]
  rw [rnd_step (h := [.loop (lp38 1 2 3), c1 w, c1 s, bxR x y]) (l := 0) (args := [iv i, iv v]) (lp := lp38 1 2 3) (l1 := lp38 1 2 3) (l2 := { lp38 1 2 3 with state := .busy }) rfl rfl rfl rfl rfl e1 rfl rfl e2 rfl]
  simp (maxSteps := 1000000) (disch := first | omega | decide | assumption | simp [scal]) [ins, lp38, ptrB, renB]
end
end Go.Proofs.Ytkmompbfcgjgmaa.nt
namespace Go.Proofs.Ytkmompbfcgjgmaa.nt
open Go.GE
set_option linter.unusedVariables false
set_option linter.unusedSimpArgs false
set_option linter.unusedSectionVars false
set_option maxRecDepth 100000
set_option maxHeartbeats 4000000
attribute [local simp] runOps_nil runOps_cons runOpsF_nil runOpsF_cons fstS_some fstF_some opStep_eq want_none oStep_true oStep_false fin_pure fin_read fin_alloc fin_write storeB wrN cellV addWr o_move o_assign o_pick o_alloc o_box o_load o_store o_nilCheck o_bin o_un o_extract o_callV o_callB o_callI callV_f callV_y callV_fc o_makeFunc partsA Instr.fill builtin_len builtin_max2 bin_add bin_sub bin_mul bin_quo bin_rem bin_lss bin_leq bin_gtr bin_geq bin_eql bin_neq un_neg un_not bin_shr bin_shl wrap_u64_id opd opds optAll putO nbeq nblt constOk isC ops sub cl cr co bodyOf thenS_normal thenS_ret thenS_exit thenS_goto afterN_normal afterN_ret afterN_exit afterN_goto condS_true condS_false blockS_normal blockS_ret blockS_exit blockS_goto headS normS normK_eq fixS_nil fixS_cons fix1 fixV emptyB keepO_nil keepO_cons roundC_normal roundC_exit roundC_ret roundC_goto sweep_eq sweepD rnm pickR pickW rootsB ptrT renT ptrFn renFn ptrB_flat ptrB_non renB_flat renB_non plainS_some drawS_some fpsOk disj unord range' dropTo enumT undef wrap_i64_id Value.cells mkCells ptrTo scal cellsAt rdN endS_ret resultsA Option.bind_some tupV finish reachN dep ptrL_eq ptrL renL_eq renL ptrV_bool ptrV_int ptrV_string ptrV_nilFunc ptrV_nilIface ptrV_nilPtr ptrV_ptr ptrV_nilSl ptrV_sl ptrV_iface ptrV_agg ptrV_tuple ptrV_func renV_bool renV_int renV_string renV_nilFunc renV_nilIface renV_nilPtr renV_ptr renV_nilSl renV_sl renV_iface renV_agg renV_tuple renV_func gotoS_goto gotoS_normal gotoS_exit gotoS_ret skip_seq sliceE bnd bndHi intOf optOpd keepT_nil keepT_cons keepC_t keepC_f lk_nil lk_cons lkC_t lkC_f has_nil has_cons hasC_t hasC_f rep_nil rep_cons repC_t repC_f put_eq putC_t putC_f mem_nil mem_cons memC_t memC_f idx_nil idx_cons idxC_t idxC_f reach_nil reachP_cons reachQ_t reachQ_f ptrB_dead renB_dead ins_eq
attribute [local simp] n77_1s n77_6s n77_8s n77_9s n77_7s n77_5s n77_13s n77_15s n77_16s n77_14s n77_12s n77_11s n77_17s n77_10s n77_4s n77_3s n77_3g n77_2s n77_0s Try.f77 n38_1s n38_3s n38_6s n38_9s n38_12s n38_13s n38_11s n38_10s n38_7s n38_5s n38_15s n38_16s n38_14s n38_4s n38_2s n38_0s Try.f38
section
variable (x y : Int)
theorem y38 (i v s w : Int) (rest : List Blk) (h1 : okI (s * x) = true) (h2 : okI (v * w) = true) (h3 : okI (s * x + v * w) = true) (h4 : okI (w * y) = true) :
    yieldH LL 0 [iv i, iv v] (.loop (lp38 1 2 3) :: c1 w :: c1 s :: bxR x y :: rest) = some ⟨.bool true, .loop (lp38 1 2 3) :: c1 (w * y) :: c1 (s * x + v * w) :: bxR x y :: rest, [0, 1, 2, 3], [0, 2, 1]⟩ := by
  have e := r38 x y i v s w h1 h2 h3 h4
  have hm : ∀ q : Nat, 20 < q → reach (.loop (lp38 1 2 3) :: c1 w :: c1 s :: bxR x y :: rest) 0 q [0] [] = [0, 1, 2, 3] := by
    intro q hq
    obtain ⟨q, rfl⟩ : ∃ j, q = j + 20 := ⟨q - 20, by omega⟩
    simp [reach, mem, nblt, nbeq, ptrB, lp38, ptrT, ptrV_ptr, ptrV_sl, ptrV_int, dep]
  unfold yieldH
  have hp : 0 :: ([iv i, iv v] : List Value).flatMap (ptrV dep) = [0] := rfl
  have hr : ∀ g, optAll (renV g dep) [iv i, iv v] = some [iv i, iv v] := fun _ => rfl
  simp only [hp, hm reachN (by decide), hr]
  simp only [lp38] at e ⊢
  simp [optAll, renB, renT, renV_ptr, renV_sl, renV_int, dep, idx, nbeq, e, mergeB, renV_bool, nblt]
theorem take_rev {p : List Int} {k : Nat} (h : k < p.length) : (p.take (k + 1)).reverse = p.getD k 0 :: (p.take k).reverse := by
  rw [List.take_add_one, List.getElem?_eq_getElem h]
  simp [h]
theorem l77 (c : Nat) {cs : List Value} {own : Bool} {p : List Int} (hp : PoC cs p) (h60 : p.length ≤ 60) : ∀ (k : Nat) (s w : Int) (W : List Nat), k ≤ p.length → (W = [] ∨ W = [0, 2, 1]) → evB x y (p.take k).reverse s w = true → ∃ W', (k = 0 → W' = W) ∧ (0 < k → W' = [0, 2, 1]) ∧
    lpB Try.prog LL ⟨77, 19, 6, none⟩ n77_3 n77_4 ⟨[(0, .func (.yield 0) #[] #[]), (1, pp 4), (3, iv ((k : Int) - 1))], [.loop (lp38 1 2 3), c1 w, c1 s, bxR x y, bxP 5 p.length c, .cells cs 1 true own], W⟩ =
      some (.exit 0, ⟨[], [.loop (lp38 1 2 3), c1 (evW y (p.take k).reverse w), c1 (evS x y (p.take k).reverse s w), bxR x y, bxP 5 p.length c, .cells cs 1 true own], W'⟩) := by
  intro k
  induction k with
  | zero =>
    intro s w W hk hW hB
    refine ⟨W, fun _ => rfl, fun h => absurd h (by omega), ?_⟩
    simp only [List.take_zero, List.reverse_nil, evS, evW]
    have e1 : ((0 : Nat) : Int) - 1 = -1 := rfl
    rw [e1, lpB_eq]
    rcases hW with rfl | rfl <;>
    simp (maxSteps := 1000000) (disch := first | omega | decide | assumption | simp [scal]) [loadA_eq ia_71, lenA_sl lk_71, o_indexAddrS es_71, loadA_eq ia_3, lp38, ptrB, renB]
  | succ k ih =>
    intro s w W hk hW hB
    rw [take_rev (show k < p.length by omega)] at hB ⊢
    simp only [evB, evS, evW, Bool.and_eq_true] at hB ⊢
    obtain ⟨⟨⟨⟨h1, h2⟩, h3⟩, h4⟩, h5⟩ := hB
    have a := y38 x y k (p.getD k 0) s w [bxP 5 p.length c, .cells cs 1 true own] h1 h2 h3 h4
    obtain ⟨W', i1, i2, this⟩ := ih (s * x + p.getD k 0 * w) (w * y) [0, 2, 1] (by omega) (.inr rfl) h5
    have hW' : W' = [0, 2, 1] := by
      by_cases h : k = 0
      · exact i1 h
      · exact i2 (by omega)
    subst hW'
    refine ⟨[0, 2, 1], fun h => by omega, fun _ => rfl, ?_⟩
    have p1 := hp k (by omega)
    have e1 : ((k + 1 : Nat) : Int) - 1 = k := by omega
    have e2 : (k : Int) < p.length := by omega
    have e3 : k < p.length := by omega
    have e4 : (0 : Int) ≤ k := by omega
    have e5 : IntKind.i64.wrap ((k : Int) - 1) = (k : Int) - 1 := wrap_i64_id (by omega) (by omega)
    clear h1 h2 h3 h4 h5 i1 i2 ih
    generalize evS x y (p.take k).reverse _ _ = Z1 at *
    generalize evW y (p.take k).reverse _ = Z2 at *
    generalize p.getD k 0 = v at *
    generalize s * x + v * w = s2 at *
    generalize w * y = w2 at *
    rw [e1, lpB_eq]
    simp only [lp38] at a this ⊢
    rcases hW with rfl | rfl <;>
    simp (maxSteps := 1000000) (disch := first | omega | decide | assumption | simp [scal]) [loadA_eq ia_71, lenA_sl lk_71, o_indexAddrS es_71, loadA_eq ia_3, ptrB, renB, e2, e3, e4, e5, p1, a, addWr, ins, this]
theorem c77 (c : Nat) {cs : List Value} {own : Bool} {p : List Int} (hp : PoC cs p) (h60 : p.length ≤ 60) (h0 : 0 < p.length) (s w : Int) (hB : evB x y p.reverse s w = true) :
    LL.run 77 [.func (.yield 0) #[] #[], pp 4] [.loop (lp38 1 2 3), c1 w, c1 s, bxR x y, bxP 5 p.length c, .cells cs 1 true own] =
      some ⟨.tuple #[], [], [(0, .loop (lp38 1 2 3)), (2, c1 (evS x y p.reverse s w)), (1, c1 (evW y p.reverse w))]⟩ := by
  obtain ⟨W', _, i2, this⟩ := l77 x y c (own := own) hp h60 p.length s w [] (Nat.le_refl _) (.inl rfl) (by rw [List.take_length]; exact hB)
  rw [i2 h0, List.take_length] at this
  have e5 : IntKind.i64.wrap ((p.length : Int) - 1) = (p.length : Int) - 1 := wrap_i64_id (by omega) (by omega)
  clear i2 hB
  generalize evS x y p.reverse s w = Z1 at *
  generalize evW y p.reverse w = Z2 at *
  refine go (by decide) ?_
  rw [run77 _ _ _ (by simp)]
  simp only [lp38] at this ⊢
  simp (maxSteps := 1000000) (disch := first | omega | decide | assumption | simp [scal]) [loadA_eq ia_71, lenA_sl lk_71, o_indexAddrS es_71, loadA_eq ia_3, ptrB, renB, e5, this, endS_normal]
theorem h77 (c : Nat) {cs : List Value} {own : Bool} {p : List Int} (hp : PoC cs p) (h60 : p.length ≤ 60) (h0 : 0 < p.length) (s w : Int) (hB : evB x y p.reverse s w = true) :
    callH LL 77 [.func (.yield 5) #[] #[], pp 4] [.cells cs 1 true own, bxR x y, c1 s, c1 w, bxP 0 p.length c, .loop (lp38 3 2 1)] =
      some ⟨.tuple #[], [.cells cs 1 true own, bxR x y, c1 (evS x y p.reverse s w), c1 (evW y p.reverse w), bxP 0 p.length c, .loop (lp38 3 2 1)], [5, 3, 2, 1, 4, 0], [5, 2, 3]⟩ := by
  have e := c77 x y c (own := own) hp h60 h0 s w hB
  have hm : ∀ q : Nat, 20 < q → reach [.cells cs 1 true own, bxR x y, c1 s, c1 w, bxP 0 p.length c, .loop (lp38 3 2 1)] 0 q [5, 4] [] = [5, 3, 2, 1, 4, 0] := by
    intro q hq
    obtain ⟨q, rfl⟩ : ∃ j, q = j + 20 := ⟨q - 20, by omega⟩
    simp [reach_cons, reachC_t, reachC_f, reach_nil, rootsB, GE.mem, nblt, nbeq, ptrB, lp38, ptrT, ptrV_ptr, ptrV_sl, ptrV_int, dep]
  have hpp : ([.func (.yield 5) #[] #[], pp 4] : List Value).flatMap (ptrV dep) = [5, 4] := rfl
  refine callH_of (by intro _; first | trivial | rfl) ?_ (by simp)
  generalize evS x y p.reverse s w = Z1 at *
  generalize evW y p.reverse w = Z2 at *
  unfold callH0
  simp only [hpp, hm reachN (by decide)]
  simp only [lp38] at e ⊢
  simp [optAll, renV_func, renFn, renL, renV_ptr, dep, idx, nbeq, renB, renT, renL_eq, renV_int, renV_sl, e, mergeB, renV_tuple, nblt]
end
/-- the sign of the value at a fraction -/
def sgP (p : List Int) (x y : Int) : Int := sg (evS x y p.reverse 0 1)
section
variable (b c : Nat) {cs : List Value} {own : Bool} {p : List Int} {h : List Blk} (hb : h[b]? = some (.cells cs 1 true own)) (hp : PoC cs p)
include hb hp
theorem k38 (h0 : 0 < p.length) (h60 : p.length ≤ 60) (x y : Int) (hB : evB x y p.reverse 0 1 = true) : callH LL 38 [sl b 0 p.length c, .agg #[iv x, iv y]] h = some ⟨iv (sgP p x y), h, [b], []⟩ := by
  refine callH_1 rfl hb noIdB_flat (args' := [sl 0 0 p.length c, .agg #[iv x, iv y]]) (by simp [renV, dep, optAll, idx, nbeq]) (go (by decide) ?_) fun _ => rfl
  have a62 := fun R => k62 p.length c (cs := cs) (own := own) R
  have a77 := h77 x y c (own := own) hp h60 h0 0 1 hB
  have a63 := fun h => k63 (evS x y p.reverse 0 1) h
  unfold sgP
  generalize evS x y p.reverse 0 1 = Z1 at *
  generalize evW y p.reverse 1 = Z2 at *
  simp only [lp38] at a77
  rw [run38 _ _ _ (by simp)]
  simp (maxSteps := 1000000) (disch := first | omega | decide | assumption | simp [scal]) [za_3, sz_3, loadA_eq ia_3, o_fieldAddr fa_24_0 (by decide), o_fieldAddr fa_24_1 (by decide), a62]
  rw [range_step n38_8e n38_8k rfl]
  simp (maxSteps := 1000000) (disch := first | omega | decide | assumption | simp [scal]) [za_3, sz_3, loadA_eq ia_3, o_fieldAddr fa_24_0 (by decide), o_fieldAddr fa_24_1 (by decide), a77]
  rw [rangeE_ready rfl rfl rfl]
  simp (maxSteps := 1000000) (disch := first | omega | decide | assumption | simp [scal]) [za_3, sz_3, loadA_eq ia_3, o_fieldAddr fa_24_0 (by decide), o_fieldAddr fa_24_1 (by decide), addWr, a63]
end
end Go.Proofs.Ytkmompbfcgjgmaa.nt
namespace Go.Proofs.Ytkmompbfcgjgmaa.nt
open Go.GE
set_option linter.unusedVariables false
set_option linter.unusedSimpArgs false
set_option linter.unusedSectionVars false
set_option maxRecDepth 100000
set_option maxHeartbeats 4000000
def chN : List Int → Int → Nat → Nat
  | [], _, n => n
  | s :: r, l, n => if s = 0 then chN r l n else chN r s (if l ≠ 0 ∧ s ≠ l then n + 1 else n)
end Go.Proofs.Ytkmompbfcgjgmaa.nt
namespace Go.Proofs.Ytkmompbfcgjgmaa.nt
open Go.GE
set_option linter.unusedVariables false
set_option linter.unusedSimpArgs false
set_option linter.unusedSectionVars false
set_option maxRecDepth 100000
set_option maxHeartbeats 4000000
attribute [local simp] runOps_nil runOps_cons runOpsF_nil runOpsF_cons fstS_some fstF_some opStep_eq want_none oStep_true oStep_false fin_pure fin_read fin_alloc fin_write storeB wrN cellV addWr o_move o_assign o_pick o_alloc o_box o_load o_store o_nilCheck o_bin o_un o_extract o_callV o_callB o_callI callV_f callV_y callV_fc o_makeFunc partsA Instr.fill builtin_len builtin_max2 bin_add bin_sub bin_mul bin_quo bin_rem bin_lss bin_leq bin_gtr bin_geq bin_eql bin_neq un_neg un_not bin_shr bin_shl wrap_u64_id opd opds optAll putO nbeq nblt constOk isC ops sub cl cr co bodyOf thenS_normal thenS_ret thenS_exit thenS_goto afterN_normal afterN_ret afterN_exit afterN_goto condS_true condS_false blockS_normal blockS_ret blockS_exit blockS_goto headS normS normK_eq fixS_nil fixS_cons fix1 fixV emptyB keepO_nil keepO_cons roundC_normal roundC_exit roundC_ret roundC_goto sweep_eq sweepD rnm pickR pickW rootsB ptrT renT ptrFn renFn ptrB_flat ptrB_non renB_flat renB_non plainS_some drawS_some fpsOk disj unord range' dropTo enumT undef wrap_i64_id Value.cells mkCells ptrTo scal cellsAt rdN endS_ret resultsA Option.bind_some tupV finish reachN dep ptrL_eq ptrL renL_eq renL ptrV_bool ptrV_int ptrV_string ptrV_nilFunc ptrV_nilIface ptrV_nilPtr ptrV_ptr ptrV_nilSl ptrV_sl ptrV_iface ptrV_agg ptrV_tuple ptrV_func renV_bool renV_int renV_string renV_nilFunc renV_nilIface renV_nilPtr renV_ptr renV_nilSl renV_sl renV_iface renV_agg renV_tuple renV_func gotoS_goto gotoS_normal gotoS_exit gotoS_ret skip_seq sliceE bnd bndHi intOf optOpd keepT_nil keepT_cons keepC_t keepC_f lk_nil lk_cons lkC_t lkC_f has_nil has_cons hasC_t hasC_f rep_nil rep_cons repC_t repC_f put_eq putC_t putC_f mem_nil mem_cons memC_t memC_f idx_nil idx_cons idxC_t idxC_f reach_nil reachP_cons reachQ_t reachQ_f ptrB_dead renB_dead ins_eq
attribute [local simp] n79_1s n79_3s n79_4s n79_2s n79_0s Try.f79 n70_1s n70_4s n70_7s n70_8s n70_6s n70_9s n70_5s n70_3s n70_11s n70_13s n70_14s n70_12s n70_10s n70_2s n70_0s Try.f70
/-- a call whose new blocks hold ids -/
theorem callP_2 {f : FuncId} {args args' : List Value} {v v' : Value} {news news' : List Blk} {h : List Blk} {b1 b2 : Nat} {k1 k2 : Blk} (hp : args.flatMap (ptrV dep) = [b1, b2]) (hb1 : h[b1]? = some k1) (hb2 : h[b2]? = some k2) (hne : b1 ≠ b2) (hn1 : noIdB k1) (hn2 : noIdB k2)
    (hr : optAll (renV (idx [b1, b2]) dep) args = some args') (he : LL.run f args' [k1, k2] = some ⟨v, news, []⟩) (hn : optAll (renB (fun c => cond (Nat.blt c 2) ([b1, b2][c]?) (some (h.length + (c - 2))))) news = some news')
    (hv : renV (fun c => cond (Nat.blt c 2) ([b1, b2][c]?) (some (h.length + (c - 2)))) dep v = some v') (hk : idle LL f args := by intro _; first | trivial | rfl) : callH LL f args h = some ⟨v', h ++ news', [b1, b2], []⟩ := by
  refine callH_of hk ?_ (by have g1 := (List.getElem?_eq_some_iff.1 hb1).1; have g2 := (List.getElem?_eq_some_iff.1 hb2).1; intro b hb; simp at hb; rcases hb with rfl | rfl <;> assumption)
  unfold callH0
  rw [hp, reach_two hb1 hb2 hne hn1.2 hn2.2 (by decide)]
  simp only [hr, optAll, hb1, hb2, hn1.1, hn2.1, he]
  unfold mergeB
  simp only [hv, optAll, List.foldl_nil, List.map_nil]
  rw [show optAll (renB fun b => cond (Nat.blt b [b1, b2].length) ([b1, b2][b]?) (some (h.length + (b - [b1, b2].length)))) news = some news' from hn, show renV (fun b => cond (Nat.blt b [b1, b2].length) ([b1, b2][b]?) (some (h.length + (b - [b1, b2].length)))) dep v = some v' from hv]
  rfl
theorem callP_1 {f : FuncId} {args args' : List Value} {v v' : Value} {news news' : List Blk} {h : List Blk} {b1 : Nat} {k1 : Blk} (hp : args.flatMap (ptrV dep) = [b1]) (hb1 : h[b1]? = some k1) (hn1 : noIdB k1)
    (hr : optAll (renV (idx [b1]) dep) args = some args') (he : LL.run f args' [k1] = some ⟨v, news, []⟩) (hn : optAll (renB (fun c => cond (Nat.blt c 1) ([b1][c]?) (some (h.length + (c - 1))))) news = some news')
    (hv : renV (fun c => cond (Nat.blt c 1) ([b1][c]?) (some (h.length + (c - 1)))) dep v = some v') (hk : idle LL f args := by intro _; first | trivial | rfl) : callH LL f args h = some ⟨v', h ++ news', [b1], []⟩ := by
  refine callH_of hk ?_ (by simpa using (List.getElem?_eq_some_iff.1 hb1).1)
  unfold callH0
  rw [hp, reach_one hb1 hn1.2 (by decide)]
  simp only [hr, optAll, hb1, hn1.1, he]
  unfold mergeB
  simp only [hv, optAll, List.foldl_nil, List.map_nil]
  rw [show optAll (renB fun b => cond (Nat.blt b [b1].length) ([b1][b]?) (some (h.length + (b - [b1].length)))) news = some news' from hn, show renV (fun b => cond (Nat.blt b [b1].length) ([b1][b]?) (some (h.length + (b - [b1].length)))) dep v = some v' from hv]
  rfl
theorem app_2 {h : List Blk} {b c : Nat} {v : Value} {a1 a2 : Value} {fl : Bool} {rd : List Nat} (h1 : cellV a1 = true) (h2 : cellV a2 = true) : appS h 1 24 b 0 1 c (some (.cells [v] 1 false true)) (some (2, [a1, a2], fl, rd)) = some ⟨.slice (some ⟨h.length, 0, none⟩) 3 3, h.set b .dead ++ [.cells [v, a1, a2] 1 false true], b :: rd, [b]⟩ := by
  have hr := rdN_all [v] 1 0 (by simp)
  simp only [appS, Nat.mul_one, hr, List.drop_zero, List.all_cons, List.all_nil, h1, h2]
  rw [if_pos (by refine ⟨by decide, by decide, trivial, rfl⟩)]
  rfl
theorem app_3 {h : List Blk} {b c : Nat} {v : Value} {a1 a2 a3 : Value} {fl : Bool} {rd : List Nat} (h1 : cellV a1 = true) (h2 : cellV a2 = true) (h3 : cellV a3 = true) : appS h 1 24 b 0 1 c (some (.cells [v] 1 false true)) (some (3, [a1, a2, a3], fl, rd)) = some ⟨.slice (some ⟨h.length, 0, none⟩) 4 4, h.set b .dead ++ [.cells [v, a1, a2, a3] 1 false true], b :: rd, [b]⟩ := by
  have hr := rdN_all [v] 1 0 (by simp)
  simp only [appS, Nat.mul_one, hr, List.drop_zero, List.all_cons, List.all_nil, h1, h2, h3]
  rw [if_pos (by refine ⟨by decide, by decide, trivial, rfl⟩)]
  rfl
section
variable (n1 d1 n2 d2 n3 d3 n4 d4 : Nat)
theorem r79_2 (B1 B2 B3 : Blk) : LL.run 79 [sl 0 0 1 1, sl 2 0 2 2] [.cells [sl 1 0 n1 d1] 1 false true, B1, .cells [sl 3 0 n2 d2, sl 4 0 n3 d3] 1 false true, B2, B3] =
    some ⟨sl 5 0 3 3, [.cells [sl 1 0 n1 d1, sl 3 0 n2 d2, sl 4 0 n3 d3] 1 false true], [(0, .dead)]⟩ := by
  refine go (by decide) ?_
  have a := fun hp rd => app_2 (h := hp) (b := 0) (c := 1) (v := sl 1 0 n1 d1) (a1 := sl 3 0 n2 d2) (a2 := sl 4 0 n3 d3) (fl := false) (rd := rd) rfl rfl
  rw [run79 _ _ _ (by simp)]
  simp (maxSteps := 1000000) (disch := first | omega | decide | assumption | simp [scal]) [ap_76, builtin_append ni_76, append_some ap_76, srcCells, a]
theorem r79_3 (B1 B2 B3 B4 : Blk) : LL.run 79 [sl 0 0 1 1, sl 2 0 3 3] [.cells [sl 1 0 n1 d1] 1 false true, B1, .cells [sl 3 0 n2 d2, sl 4 0 n3 d3, sl 5 0 n4 d4] 1 false true, B2, B3, B4] =
    some ⟨sl 6 0 4 4, [.cells [sl 1 0 n1 d1, sl 3 0 n2 d2, sl 4 0 n3 d3, sl 5 0 n4 d4] 1 false true], [(0, .dead)]⟩ := by
  refine go (by decide) ?_
  have a := fun hp rd => app_3 (h := hp) (b := 0) (c := 1) (v := sl 1 0 n1 d1) (a1 := sl 3 0 n2 d2) (a2 := sl 4 0 n3 d3) (a3 := sl 5 0 n4 d4) (fl := false) (rd := rd) rfl rfl rfl
  rw [run79 _ _ _ (by simp)]
  simp (maxSteps := 1000000) (disch := first | omega | decide | assumption | simp [scal]) [ap_76, builtin_append ni_76, append_some ap_76, srcCells, a]
theorem h79_2 (P O q r R : List Value) (o1 o2 : Bool) : callH LL 79 [sl 4 0 1 1, sl 6 0 2 2] [.cells P 1 true o1, .cells O 1 true o2, .cells q 1 true true, .cells r 1 true true, .cells [sl 0 0 n1 d1] 1 false true, .cells R 1 true true, .cells [sl 1 0 n2 d2, sl 5 0 n3 d3] 1 false true] =
    some ⟨sl 7 0 3 3, [.cells P 1 true o1, .cells O 1 true o2, .cells q 1 true true, .cells r 1 true true, .dead, .cells R 1 true true, .cells [sl 1 0 n2 d2, sl 5 0 n3 d3] 1 false true, .cells [sl 0 0 n1 d1, sl 1 0 n2 d2, sl 5 0 n3 d3] 1 false true], [4, 0, 6, 1, 5], [4]⟩ := by
  have e := r79_2 n1 d1 n2 d2 n3 d3 (.cells P 1 true o1) (.cells O 1 true o2) (.cells R 1 true true)
  have hm : ∀ q' : Nat, 30 < q' → reach [.cells P 1 true o1, .cells O 1 true o2, .cells q 1 true true, .cells r 1 true true, .cells [sl 0 0 n1 d1] 1 false true, .cells R 1 true true, .cells [sl 1 0 n2 d2, sl 5 0 n3 d3] 1 false true] 0 q' [4, 6] [] = [4, 0, 6, 1, 5] := by
    intro q hq
    obtain ⟨q, rfl⟩ : ∃ j, q = j + 30 := ⟨q - 30, by omega⟩
    simp [reach_cons, reachC_t, reachC_f, reach_nil, rootsB, GE.mem, nblt, nbeq, ptrB, ptrT, ptrV_ptr, ptrV_sl, ptrV_int, ptrL, dep]
  have hpp : ([sl 4 0 1 1, sl 6 0 2 2] : List Value).flatMap (ptrV dep) = [4, 6] := rfl
  refine callH_of (by intro _; first | trivial | rfl) ?_ (by simp)
  unfold callH0
  simp only [hpp, hm reachN (by decide)]
  simp [optAll, renV_func, renFn, renL, renV_ptr, renV_agg, dep, idx, nbeq, renB, renT, renL_eq, renV_int, renV_sl, e, mergeB, renV_tuple, nblt]
theorem h79_3 (P O q r R R2 : List Value) (o1 o2 : Bool) : callH LL 79 [sl 4 0 1 1, sl 6 0 3 3] [.cells P 1 true o1, .cells O 1 true o2, .cells q 1 true true, .cells r 1 true true, .cells [sl 0 0 n1 d1] 1 false true, .cells R 1 true true, .cells [sl 1 0 n2 d2, sl 5 0 n3 d3, sl 7 0 n4 d4] 1 false true, .cells R2 1 true true] =
    some ⟨sl 8 0 4 4, [.cells P 1 true o1, .cells O 1 true o2, .cells q 1 true true, .cells r 1 true true, .dead, .cells R 1 true true, .cells [sl 1 0 n2 d2, sl 5 0 n3 d3, sl 7 0 n4 d4] 1 false true, .cells R2 1 true true, .cells [sl 0 0 n1 d1, sl 1 0 n2 d2, sl 5 0 n3 d3, sl 7 0 n4 d4] 1 false true], [4, 0, 6, 1, 5, 7], [4]⟩ := by
  have e := r79_3 n1 d1 n2 d2 n3 d3 n4 d4 (.cells P 1 true o1) (.cells O 1 true o2) (.cells R 1 true true) (.cells R2 1 true true)
  have hm : ∀ q' : Nat, 30 < q' → reach [.cells P 1 true o1, .cells O 1 true o2, .cells q 1 true true, .cells r 1 true true, .cells [sl 0 0 n1 d1] 1 false true, .cells R 1 true true, .cells [sl 1 0 n2 d2, sl 5 0 n3 d3, sl 7 0 n4 d4] 1 false true, .cells R2 1 true true] 0 q' [4, 6] [] = [4, 0, 6, 1, 5, 7] := by
    intro q hq
    obtain ⟨q, rfl⟩ : ∃ j, q = j + 30 := ⟨q - 30, by omega⟩
    simp [reach_cons, reachC_t, reachC_f, reach_nil, rootsB, GE.mem, nblt, nbeq, ptrB, ptrT, ptrV_ptr, ptrV_sl, ptrV_int, ptrL, dep]
  have hpp : ([sl 4 0 1 1, sl 6 0 3 3] : List Value).flatMap (ptrV dep) = [4, 6] := rfl
  refine callH_of (by intro _; first | trivial | rfl) ?_ (by simp)
  unfold callH0
  simp only [hpp, hm reachN (by decide)]
  simp [optAll, renV_func, renFn, renL, renV_ptr, renV_agg, dep, idx, nbeq, renB, renT, renL_eq, renV_int, renV_sl, e, mergeB, renV_tuple, nblt]
end
/-- what follows two polynomials in a chain -/
def nxt (p o : List Int) : List Int := tms (lea (ovF p o).2) (-1)
def nxtB (p o : List Int) : Bool := Nat.ble 2 o.length && Nat.ble o.length p.length && Nat.ble p.length 60 && ovB p o && allB (nxt p o) && Nat.ble 1 (nxt p o).length
section
variable {p o : List Int} (hB : nxtB p o = true)
include hB
theorem nxt_ok : 2 ≤ o.length ∧ o.length ≤ p.length ∧ p.length ≤ 60 ∧ ovB p o = true ∧ allB (nxt p o) = true ∧ 1 ≤ (nxt p o).length ∧ (nxt p o).length ≤ 60 := by
  unfold nxtB at hB
  simp only [Bool.and_eq_true] at hB
  obtain ⟨⟨⟨⟨⟨c1, c2⟩, c3⟩, c4⟩, c5⟩, c6⟩ := hB
  have c1 := Nat.le_of_ble_eq_true c1
  have c2 := Nat.le_of_ble_eq_true c2
  have c3 := Nat.le_of_ble_eq_true c3
  have c6 := Nat.le_of_ble_eq_true c6
  refine ⟨c1, c2, c3, c4, c5, c6, ?_⟩
  obtain ⟨C', k', r1, r2, r3, r4, r5⟩ := l65f p.length o.length (cs := zm p) (co := zm o) (own := true) (own2 := true) PoC_zm PoC_zm c3 (by omega) c2 c4
  unfold nxt
  rw [tms_len, lea_len]
  have := dgP_le (p := (ovF p o).2)
  rw [← r3, List.length_take] at this
  rw [← r3]
  omega
end
section
variable (b b2 c cc : Nat) {cs co : List Value} {own own2 : Bool} {p o : List Int} {h : List Blk} (hb : h[b]? = some (.cells cs 1 true own)) (hb2 : h[b2]? = some (.cells co 1 true own2)) (hne : b ≠ b2) (hp : PoC cs p) (ho : PoC co o)
include hb hb2 hne hp ho
theorem k70_2 (h1 : o.length = 1) : callH LL 70 [sl b 0 p.length c, sl b2 0 1 cc] h = some ⟨sl h.length 0 2 2, h ++ [.cells [sl b 0 p.length c, sl b2 0 1 cc] 1 false true], [b, b2], []⟩ := by
  have hne' : ¬ b2 = b := fun e => hne e.symm
  refine callP_2 rfl hb hb2 hne noIdB_flat noIdB_flat (args' := [sl 0 0 p.length c, sl 1 0 1 cc]) (by simp [renV, dep, optAll, idx, nbeq, hne, hne']) (v := sl 2 0 2 2) (news := [.cells [sl 0 0 p.length c, sl 1 0 1 cc] 1 false true]) (go (by decide) ?_)
    (by simp [optAll, renB, renL, renL_eq, renV_sl, dep, nblt]) (by simp [renV, dep])
  rw [run70 _ _ _ (by simp)]
  simp (maxSteps := 1000000) (disch := first | omega | decide | assumption | simp [scal]) [lenA_sl lk_71, o_indexAddrS es_76, ze_76, o_buildSlice es_76 ze_76 (by decide) ba_76_2, o_buildSlice es_76 ze_76 (by decide) ba_76_1]
theorem k70_3 (hB : nxtB p o = true) (h1 : (nxt p o).length = 1) : callH LL 70 [sl b 0 p.length c, sl b2 0 o.length cc] h = some ⟨sl h.length 0 3 3, h ++ [.cells [sl b 0 p.length c, sl b2 0 o.length cc, sl (h.length + 1) 0 1 1] 1 false true, zB (nxt p o)], [b, b2], []⟩ := by
  have hne' : ¬ b2 = b := fun e => hne e.symm
  obtain ⟨c1', c2, c3, c4, c5, c6, c7⟩ := nxt_ok hB
  refine callP_2 rfl hb hb2 hne noIdB_flat noIdB_flat (args' := [sl 0 0 p.length c, sl 1 0 o.length cc]) (by simp [renV, dep, optAll, idx, nbeq, hne, hne']) (v := sl 2 0 3 3) (news := [.cells [sl 0 0 p.length c, sl 1 0 o.length cc, sl 3 0 1 1] 1 false true, zB (nxt p o)]) (go (by decide) ?_)
    (by simp [optAll, renB, renL, renL_eq, renV_sl, dep, nblt]) (by simp [renV, dep])
  have a65 := k65 0 1 c cc (p := p) (o := o) (h := [.cells cs 1 true own, .cells co 1 true own2]) rfl rfl (by decide) hp ho c3 (by omega) c2 c4
  have a66 := fun X => k66 3 (dgP (ovF p o).2) (p := lea (ovF p o).2) (h := [.cells cs 1 true own, .cells co 1 true own2, zB (lea (ovF p o).1), zB (lea (ovF p o).2), X]) rfl PoC_zm (by unfold nxt at c7; rw [tms_len] at c7; exact c7) (-1) (sm_tms c5)
  rw [show tms (lea (ovF p o).2) (-1) = nxt p o from rfl] at a66
  have a70 := k70_2 1 5 cc 1 (cs := co) (co := zm (nxt p o)) (own := own2) (own2 := true) (p := o) (o := nxt p o) (h := [.cells cs 1 true own, .cells co 1 true own2, zB (lea (ovF p o).1), zB (lea (ovF p o).2), .cells [sl 0 0 p.length c] 1 false true, zB (nxt p o)]) rfl rfl (by decide) ho PoC_zm h1
  have a79 := h79_2 p.length c o.length cc 1 1 cs co (zm (lea (ovF p o).1)) (zm (lea (ovF p o).2)) (zm (nxt p o)) own own2
  have el : (lea (ovF p o).2).length = dgP (ovF p o).2 := lea_len
  have e2 : dgP (ovF p o).2 = 1 := by rw [← el]; unfold nxt at h1; rwa [tms_len] at h1
  rw [el, e2] at a66
  rw [e2] at a65
  have e3 : ¬ o.length = 1 := by omega
  have e3' : ¬ (o.length : Int) = 1 := by omega
  clear hB c4 c5 h1
  simp only [zB] at a65 a66 a70 a79 ⊢
  generalize zm (nxt p o) = L1 at *
  generalize zm (lea (ovF p o).1) = L2 at *
  generalize zm (lea (ovF p o).2) = L3 at *
  generalize dgP (ovF p o).1 = d1 at *
  rw [run70 _ _ _ (by simp)]
  simp (maxSteps := 1000000) (disch := first | omega | decide | assumption | simp [scal]) [lenA_sl lk_71, o_indexAddrS es_76, ze_76, o_buildSlice es_76 ze_76 (by decide) ba_76_2, o_buildSlice es_76 ze_76 (by decide) ba_76_1, e3, e3', a65, a66, a70, a79]
theorem k70_4 (hB : nxtB p o = true) (hB2 : nxtB o (nxt p o) = true) (h1 : (nxt o (nxt p o)).length = 1) : callH LL 70 [sl b 0 p.length c, sl b2 0 o.length cc] h = some ⟨sl h.length 0 4 4, h ++ [.cells [sl b 0 p.length c, sl b2 0 o.length cc, sl (h.length + 1) 0 (nxt p o).length (nxt p o).length, sl (h.length + 2) 0 1 1] 1 false true, zB (nxt p o), zB (nxt o (nxt p o))], [b, b2], []⟩ := by
  have hne' : ¬ b2 = b := fun e => hne e.symm
  obtain ⟨c1', c2, c3, c4, c5, c6, c7⟩ := nxt_ok hB
  refine callP_2 rfl hb hb2 hne noIdB_flat noIdB_flat (args' := [sl 0 0 p.length c, sl 1 0 o.length cc]) (by simp [renV, dep, optAll, idx, nbeq, hne, hne']) (v := sl 2 0 4 4) (news := [.cells [sl 0 0 p.length c, sl 1 0 o.length cc, sl 3 0 (nxt p o).length (nxt p o).length, sl 4 0 1 1] 1 false true, zB (nxt p o), zB (nxt o (nxt p o))]) (go (by decide) ?_)
    (by simp [optAll, renB, renL, renL_eq, renV_sl, dep, nblt]) (by simp [renV, dep])
  have a65 := k65 0 1 c cc (p := p) (o := o) (h := [.cells cs 1 true own, .cells co 1 true own2]) rfl rfl (by decide) hp ho c3 (by omega) c2 c4
  have a66 := fun X => k66 3 (dgP (ovF p o).2) (p := lea (ovF p o).2) (h := [.cells cs 1 true own, .cells co 1 true own2, zB (lea (ovF p o).1), zB (lea (ovF p o).2), X]) rfl PoC_zm (by unfold nxt at c7; rw [tms_len] at c7; exact c7) (-1) (sm_tms c5)
  rw [show tms (lea (ovF p o).2) (-1) = nxt p o from rfl] at a66
  have a70 := k70_3 1 5 cc (nxt p o).length (cs := co) (co := zm (nxt p o)) (own := own2) (own2 := true) (p := o) (o := nxt p o) (h := [.cells cs 1 true own, .cells co 1 true own2, zB (lea (ovF p o).1), zB (lea (ovF p o).2), .cells [sl 0 0 p.length c] 1 false true, zB (nxt p o)]) rfl rfl (by decide) ho PoC_zm hB2 h1
  have a79 := h79_3 p.length c o.length cc (nxt p o).length (nxt p o).length 1 1 cs co (zm (lea (ovF p o).1)) (zm (lea (ovF p o).2)) (zm (nxt p o)) (zm (nxt o (nxt p o))) own own2
  have el : (lea (ovF p o).2).length = dgP (ovF p o).2 := lea_len
  have e2 : (nxt p o).length = dgP (ovF p o).2 := by rw [← el]; unfold nxt; rw [tms_len]
  rw [el] at a66
  rw [e2] at a70 a79 ⊢
  have e3 : ¬ o.length = 1 := by omega
  have e3' : ¬ (o.length : Int) = 1 := by omega
  clear hB hB2 c4 c5 h1
  simp only [zB] at a65 a66 a70 a79 ⊢
  generalize zm (nxt o (nxt p o)) = L4 at *
  generalize zm (nxt p o) = L1 at *
  generalize zm (lea (ovF p o).1) = L2 at *
  generalize zm (lea (ovF p o).2) = L3 at *
  generalize dgP (ovF p o).1 = d1 at *
  generalize dgP (ovF p o).2 = d2 at *
  rw [run70 _ _ _ (by simp)]
  simp (maxSteps := 1000000) (disch := first | omega | decide | assumption | simp [scal]) [lenA_sl lk_71, o_indexAddrS es_76, ze_76, o_buildSlice es_76 ze_76 (by decide) ba_76_2, o_buildSlice es_76 ze_76 (by decide) ba_76_1, e3, e3', a65, a66, a70, a79]
end
def stu (p : List Int) : List (List Int) :=
  let l := lea (slp (cor p))
  bif Nat.beq l.length 1 then [cor p, l] else
  let r := nxt (cor p) l
  bif Nat.beq r.length 1 then [cor p, l, r] else [cor p, l, r, nxt l r]
/-- nothing is too great, and it ends with a constant -/
def stuB (p : List Int) : Bool :=
  let l := lea (slp (cor p))
  corB p && Nat.ble 2 (cor p).length && Nat.ble (cor p).length 60 && allB (slp (cor p)) && (bif Nat.beq l.length 1 then true else
  let r := nxt (cor p) l
  nxtB (cor p) l && (bif Nat.beq r.length 1 then true else nxtB l r && Nat.beq (nxt l r).length 1))
def stC : Nat → List (List Int) → List Value
  | _, [] => []
  | p, q :: S => sl p 0 q.length q.length :: stC (p + 1) S
/-- a list of polynomials, told: its cells, then a block for each -/
def stBk (p : Nat) (S : List (List Int)) : List Blk := .cells (stC (p + 1) S) 1 false true :: S.map zB
end Go.Proofs.Ytkmompbfcgjgmaa.nt
namespace Go.Proofs.Ytkmompbfcgjgmaa.nt
open Go.GE
set_option linter.unusedVariables false
set_option linter.unusedSimpArgs false
set_option linter.unusedSectionVars false
set_option maxRecDepth 100000
set_option maxHeartbeats 4000000
attribute [local simp] runOps_nil runOps_cons runOpsF_nil runOpsF_cons fstS_some fstF_some opStep_eq want_none oStep_true oStep_false fin_pure fin_read fin_alloc fin_write storeB wrN cellV addWr o_move o_assign o_pick o_alloc o_box o_load o_store o_nilCheck o_bin o_un o_extract o_callV o_callB o_callI callV_f callV_y callV_fc o_makeFunc partsA Instr.fill builtin_len builtin_max2 bin_add bin_sub bin_mul bin_quo bin_rem bin_lss bin_leq bin_gtr bin_geq bin_eql bin_neq un_neg un_not bin_shr bin_shl wrap_u64_id opd opds optAll putO nbeq nblt constOk isC ops sub cl cr co bodyOf thenS_normal thenS_ret thenS_exit thenS_goto afterN_normal afterN_ret afterN_exit afterN_goto condS_true condS_false blockS_normal blockS_ret blockS_exit blockS_goto headS normS normK_eq fixS_nil fixS_cons fix1 fixV emptyB keepO_nil keepO_cons roundC_normal roundC_exit roundC_ret roundC_goto sweep_eq sweepD rnm pickR pickW rootsB ptrT renT ptrFn renFn ptrB_flat ptrB_non renB_flat renB_non plainS_some drawS_some fpsOk disj unord range' dropTo enumT undef wrap_i64_id Value.cells mkCells ptrTo scal cellsAt rdN endS_ret resultsA Option.bind_some tupV finish reachN dep ptrL_eq ptrL renL_eq renL ptrV_bool ptrV_int ptrV_string ptrV_nilFunc ptrV_nilIface ptrV_nilPtr ptrV_ptr ptrV_nilSl ptrV_sl ptrV_iface ptrV_agg ptrV_tuple ptrV_func renV_bool renV_int renV_string renV_nilFunc renV_nilIface renV_nilPtr renV_ptr renV_nilSl renV_sl renV_iface renV_agg renV_tuple renV_func gotoS_goto gotoS_normal gotoS_exit gotoS_ret skip_seq sliceE bnd bndHi intOf optOpd keepT_nil keepT_cons keepC_t keepC_f lk_nil lk_cons lkC_t lkC_f has_nil has_cons hasC_t hasC_f rep_nil rep_cons repC_t repC_f put_eq putC_t putC_f mem_nil mem_cons memC_t memC_f idx_nil idx_cons idxC_t idxC_f reach_nil reachP_cons reachQ_t reachQ_f ptrB_dead renB_dead ins_eq
attribute [local simp] n43_1s n43_3s n43_5s n43_6s n43_4s n43_2s n43_0s Try.f43
section
variable (b c : Nat) {cs : List Value} {own : Bool} {p : List Int} {h : List Blk} (hb : h[b]? = some (.cells cs 1 true own)) (hp : PoC cs p)
include hb hp
theorem k43 (hB : stuB p = true) : callH LL 43 [sl b 0 p.length c] h = some ⟨sl h.length 0 (stu p).length (stu p).length, h ++ stBk h.length (stu p), [b], []⟩ := by
  unfold stuB at hB
  simp only [Bool.and_eq_true] at hB
  obtain ⟨⟨⟨⟨c1, c2⟩, c3⟩, c4⟩, c5⟩ := hB
  have c2 := Nat.le_of_ble_eq_true c2
  have c3 := Nat.le_of_ble_eq_true c3
  have a41 := k41 0 c (h := [.cells cs 1 true own]) rfl hp c1
  have a54 := k54 1 (cor p).length (p := cor p) (h := [.cells cs 1 true own, zB (cor p)]) rfl PoC_zm (by omega) c3 (sm_slp c4)
  have a71 := k71 2 ((cor p).length - 1) (p := slp (cor p)) (h := [.cells cs 1 true own, zB (cor p), zB (slp (cor p))]) rfl PoC_zm (by rw [slp_len]; omega) (allB_lt c4)
  rw [slp_len] at a71
  obtain ⟨l, hl⟩ : ∃ l, lea (slp (cor p)) = l := ⟨_, rfl⟩
  have hll : l.length = dgP (slp (cor p)) := by rw [← hl, lea_len]
  have hst : stu p = (bif Nat.beq l.length 1 then [cor p, l] else (bif Nat.beq (nxt (cor p) l).length 1 then [cor p, l, nxt (cor p) l] else [cor p, l, nxt (cor p) l, nxt l (nxt (cor p) l)])) := by unfold stu; rw [hl]
  rw [hl, ← hll] at a71
  rw [hl] at c5
  rw [hst]
  generalize cor p = C at *
  simp only [zB] at a41 a54 a71
  generalize zm (slp C) = S2 at *
  clear c4 hl hll hst c1
  by_cases h1 : l.length = 1
  · have eb : Nat.beq l.length 1 = true := by rw [h1]; rfl
    simp only [eb, cond_true]
    have a70 := k70_2 1 3 C.length 1 (cs := zm C) (co := zm l) (own := true) (own2 := true) (p := C) (o := l) (h := [.cells cs 1 true own, zB C, .cells S2 1 true true, zB l]) rfl rfl (by decide) PoC_zm PoC_zm h1
    refine callP_1 rfl hb noIdB_flat (args' := [sl 0 0 p.length c]) (by simp [renV, dep, optAll, idx, nbeq]) (v := sl 1 0 2 2) (news := stBk 1 [C, l]) (go (by decide) ?_)
      (by simp [stBk, stC, optAll, renB, renL, renL_eq, renV_sl, dep, nblt, h1]) (by simp [renV, dep])
    rw [h1] at a71
    simp only [stBk, stC, zB, List.map_cons, List.map_nil, h1] at a41 a54 a71 a70 ⊢
    generalize zm C = L1 at *
    generalize zm l = L2 at *
    rw [run43 _ _ _ (by simp)]
    simp (maxSteps := 1000000) (disch := first | omega | decide | assumption | simp [scal]) [a41, a54, a71, a70]
  · have eb : Nat.beq l.length 1 = false := by rw [nbeq]; simp [h1]
    simp only [eb, cond_false, Bool.and_eq_true] at c5 ⊢
    obtain ⟨c6, c7⟩ := c5
    by_cases h2 : (nxt C l).length = 1
    · have eb2 : Nat.beq (nxt C l).length 1 = true := by rw [h2]; rfl
      simp only [eb2, cond_true]
      have a70 := k70_3 1 3 C.length l.length (cs := zm C) (co := zm l) (own := true) (own2 := true) (p := C) (o := l) (h := [.cells cs 1 true own, zB C, .cells S2 1 true true, zB l]) rfl rfl (by decide) PoC_zm PoC_zm c6 h2
      refine callP_1 rfl hb noIdB_flat (args' := [sl 0 0 p.length c]) (by simp [renV, dep, optAll, idx, nbeq]) (v := sl 1 0 3 3) (news := stBk 1 [C, l, nxt C l]) (go (by decide) ?_)
        (by simp [stBk, stC, optAll, renB, renL, renL_eq, renV_sl, dep, nblt, h2]) (by simp [renV, dep])
      simp only [stBk, stC, zB, List.map_cons, List.map_nil, h2] at a41 a54 a71 a70 ⊢
      clear c6 c7 h2 eb2 eb
      generalize zm (nxt C l) = L3 at *
      generalize zm C = L1 at *
      generalize zm l = L2 at *
      rw [run43 _ _ _ (by simp)]
      simp (maxSteps := 1000000) (disch := first | omega | decide | assumption | simp [scal]) [a41, a54, a71, a70]
    · have eb2 : Nat.beq (nxt C l).length 1 = false := by rw [nbeq]; simp [h2]
      simp only [eb2, cond_false, Bool.and_eq_true] at c7 ⊢
      obtain ⟨c7, c8⟩ := c7
      have h3 : (nxt l (nxt C l)).length = 1 := by rw [nbeq, decide_eq_true_eq] at c8; exact c8
      have a70 := k70_4 1 3 C.length l.length (cs := zm C) (co := zm l) (own := true) (own2 := true) (p := C) (o := l) (h := [.cells cs 1 true own, zB C, .cells S2 1 true true, zB l]) rfl rfl (by decide) PoC_zm PoC_zm c6 c7 h3
      refine callP_1 rfl hb noIdB_flat (args' := [sl 0 0 p.length c]) (by simp [renV, dep, optAll, idx, nbeq]) (v := sl 1 0 4 4) (news := stBk 1 [C, l, nxt C l, nxt l (nxt C l)]) (go (by decide) ?_)
        (by simp [stBk, stC, optAll, renB, renL, renL_eq, renV_sl, dep, nblt, h3]) (by simp [renV, dep])
      simp only [stBk, stC, zB, List.map_cons, List.map_nil, h3] at a41 a54 a71 a70 ⊢
      clear c6 c7 c8 h2 eb2 eb h3
      generalize zm (nxt l (nxt C l)) = L4 at *
      generalize zm (nxt C l) = L3 at *
      generalize zm C = L1 at *
      generalize zm l = L2 at *
      generalize (nxt C l).length = g3 at *
      rw [run43 _ _ _ (by simp)]
      simp (maxSteps := 1000000) (disch := first | omega | decide | assumption | simp [scal]) [a41, a54, a71, a70]
end
end Go.Proofs.Ytkmompbfcgjgmaa.nt
namespace Go.Proofs.Ytkmompbfcgjgmaa.nt
open Go.GE
set_option linter.unusedVariables false
set_option linter.unusedSimpArgs false
set_option linter.unusedSectionVars false
set_option maxRecDepth 100000
set_option maxHeartbeats 4000000
attribute [local simp] runOps_nil runOps_cons runOpsF_nil runOpsF_cons fstS_some fstF_some opStep_eq want_none oStep_true oStep_false fin_pure fin_read fin_alloc fin_write storeB wrN cellV addWr o_move o_assign o_pick o_alloc o_box o_load o_store o_nilCheck o_bin o_un o_extract o_callV o_callB o_callI callV_f callV_y callV_fc o_makeFunc partsA Instr.fill builtin_len builtin_max2 bin_add bin_sub bin_mul bin_quo bin_rem bin_lss bin_leq bin_gtr bin_geq bin_eql bin_neq un_neg un_not bin_shr bin_shl wrap_u64_id opd opds optAll putO nbeq nblt constOk isC ops sub cl cr co bodyOf thenS_normal thenS_ret thenS_exit thenS_goto afterN_normal afterN_ret afterN_exit afterN_goto condS_true condS_false blockS_normal blockS_ret blockS_exit blockS_goto headS normS normK_eq fixS_nil fixS_cons fix1 fixV emptyB keepO_nil keepO_cons roundC_normal roundC_exit roundC_ret roundC_goto sweep_eq sweepD rnm pickR pickW rootsB ptrT renT ptrFn renFn ptrB_flat ptrB_non renB_flat renB_non plainS_some drawS_some fpsOk disj unord range' dropTo enumT undef wrap_i64_id Value.cells mkCells ptrTo scal cellsAt rdN endS_ret resultsA Option.bind_some tupV finish reachN dep ptrL_eq ptrL renL_eq renL ptrV_bool ptrV_int ptrV_string ptrV_nilFunc ptrV_nilIface ptrV_nilPtr ptrV_ptr ptrV_nilSl ptrV_sl ptrV_iface ptrV_agg ptrV_tuple ptrV_func renV_bool renV_int renV_string renV_nilFunc renV_nilIface renV_nilPtr renV_ptr renV_nilSl renV_sl renV_iface renV_agg renV_tuple renV_func gotoS_goto gotoS_normal gotoS_exit gotoS_ret skip_seq sliceE bnd bndHi intOf optOpd keepT_nil keepT_cons keepC_t keepC_f lk_nil lk_cons lkC_t lkC_f has_nil has_cons hasC_t hasC_f rep_nil rep_cons repC_t repC_f put_eq putC_t putC_f mem_nil mem_cons memC_t memC_f idx_nil idx_cons idxC_t idxC_f reach_nil reachP_cons reachQ_t reachQ_f ptrB_dead renB_dead ins_eq
attribute [local simp] n46_1s n46_3s n46_4s n46_2s n46_0s Try.f46 n73_1s n73_4s n73_8s n73_11s n73_12s n73_10s n73_16s n73_18s n73_21s n73_22s n73_20s n73_23s n73_19s n73_17s n73_15s n73_14s n73_24s n73_13s n73_9s n73_7s n73_6s n73_6g n73_5s n73_3s n73_26s n73_27s n73_25s n73_2s n73_0s Try.f73 n45_1s n45_3s n45_4s n45_2s n45_0s Try.f45 n21_1s n21_5s n21_8s n21_9s n21_7s n21_11s n21_14s n21_15s n21_13s n21_17s n21_20s n21_21s n21_19s n21_23s n21_26s n21_27s n21_25s n21_28s n21_24s n21_22s n21_18s n21_16s n21_12s n21_10s n21_6s n21_4s n21_3s n21_30s n21_31s n21_29s n21_2s n21_0s Try.f21 n37_1s n37_3s n37_4s n37_2s n37_0s Try.f37
def badC (x : Int) : Bool := decide (x < -50) || decide (50 < x)
theorem k46 (x : Int) (h : List Blk) : callH LL 46 [iv x] h = some ⟨.bool (badC x), h, [], []⟩ := by
  refine callH_plain (go (by decide) ?_) rfl rfl
  rw [run46 _ _ _ (by simp)]
  unfold badC
  by_cases h1 : x < -50
  · simp (maxSteps := 1000000) (disch := first | omega | decide | assumption | simp [scal]) [want_some q46_3g2, h1]
  · by_cases h2 : 50 < x
    · simp (maxSteps := 1000000) (disch := first | omega | decide | assumption | simp [scal]) [want_some q46_3g2, h1, h2]
    · simp (maxSteps := 1000000) (disch := first | omega | decide | assumption | simp [scal]) [want_some q46_3g2, h1, h2]
section
variable (c : Nat) {cs : List Value} {own : Bool} {p : List Int} (hp : PoC cs p) (h60 : p.length ≤ 60)
include hp h60
theorem l73 : ∀ (q i : Nat), i + q = p.length → ((p.drop i).any badC = true → ∃ j : Nat, j ≤ 60 ∧ lpB Try.prog LL ⟨73, 19, 1, none⟩ n73_6 n73_7 ⟨[(0, sl 0 0 p.length c), (1, .func (.func 46) #[] #[]), (7, iv p.length), (8, iv i)], [.cells cs 1 true own], []⟩ =
      some (.ret, ⟨[(4, iv j)], [.cells cs 1 true own], []⟩)) ∧ ((p.drop i).any badC = false → lpB Try.prog LL ⟨73, 19, 1, none⟩ n73_6 n73_7 ⟨[(0, sl 0 0 p.length c), (1, .func (.func 46) #[] #[]), (7, iv p.length), (8, iv i)], [.cells cs 1 true own], []⟩ =
      some (.exit 0, ⟨[], [.cells cs 1 true own], []⟩)) := by
  intro q
  induction q with
  | zero =>
    intro i hi
    obtain rfl : i = p.length := by omega
    rw [List.drop_length]
    refine ⟨fun h => by simp at h, fun _ => ?_⟩
    rw [lpB_eq]
    simp (maxSteps := 1000000) (disch := first | omega | decide | assumption | simp [scal]) [lenA_sl lk_22, o_indexAddrS es_22, loadA_eq ia_3]
  | succ q ih =>
    intro i hi
    have e0 : i < p.length := by omega
    have e1 : (i : Int) < p.length := by omega
    have p1 := hp i e0
    have hx : p.getD i 0 = p[i] := by simp [e0]
    obtain ⟨ih1, ih2⟩ := ih (i + 1) (by omega)
    rw [List.drop_eq_getElem_cons e0, List.any_cons, ← hx]
    have a46 := fun h => k46 (p.getD i 0) h
    simp only [cast1] at ih1 ih2
    clear ih hx
    generalize p.getD i 0 = x at *
    cases hb : badC x
    · rw [hb] at a46
      simp only [Bool.false_or]
      refine ⟨fun h => ?_, fun h => ?_⟩
      · obtain ⟨j, hj, this⟩ := ih1 h
        refine ⟨j, hj, ?_⟩
        rw [lpB_eq]
        simp (maxSteps := 1000000) (disch := first | omega | decide | assumption | simp [scal]) [lenA_sl lk_22, o_indexAddrS es_22, loadA_eq ia_3, e0, e1, p1, a46, this]
      · have this := ih2 h
        rw [lpB_eq]
        simp (maxSteps := 1000000) (disch := first | omega | decide | assumption | simp [scal]) [lenA_sl lk_22, o_indexAddrS es_22, loadA_eq ia_3, e0, e1, p1, a46, this]
    · rw [hb] at a46
      simp only [Bool.true_or]
      refine ⟨fun _ => ⟨i, by omega, ?_⟩, fun h => by cases h⟩
      rw [lpB_eq]
      simp (maxSteps := 1000000) (disch := first | omega | decide | assumption | simp [scal]) [lenA_sl lk_22, o_indexAddrS es_22, loadA_eq ia_3, e0, e1, p1, a46]
end
section
variable (b c : Nat) {cs : List Value} {own : Bool} {p : List Int} {h : List Blk} (hb : h[b]? = some (.cells cs 1 true own)) (hp : PoC cs p)
include hb hp
theorem k45 (h60 : p.length ≤ 60) : callH LL 45 [sl b 0 p.length c, .func (.func 46) #[] #[]] h = some ⟨.bool (p.any badC), h, [b], []⟩ := by
  have a73 : ∀ R, ∃ j : Int, (p.any badC = decide (0 ≤ j)) ∧ callH LL 73 [sl 0 0 p.length c, .func (.func 46) #[] #[]] (.cells cs 1 true own :: R) = some ⟨iv j, .cells cs 1 true own :: R, [0], []⟩ := by
    intro R
    have l := l73 c (own := own) hp h60 p.length 0 (by omega)
    rw [List.drop_zero] at l
    simp only [Int.natCast_zero] at l
    cases ha : p.any badC
    · have this := l.2 ha
      refine ⟨-1, by decide, callH_1 rfl rfl noIdB_flat (args' := [sl 0 0 p.length c, .func (.func 46) #[] #[]]) (by simp [renV, dep, optAll, idx, nbeq, renFn, renL]) (go (by decide) ?_) fun _ => rfl⟩
      rw [run73 _ _ _ (by simp)]
      simp (maxSteps := 1000000) (disch := first | omega | decide | assumption | simp [scal]) [lenA_sl lk_22, o_indexAddrS es_22, loadA_eq ia_3, this]
    · obtain ⟨j, hj, this⟩ := l.1 ha
      refine ⟨j, by simp, callH_1 rfl rfl noIdB_flat (args' := [sl 0 0 p.length c, .func (.func 46) #[] #[]]) (by simp [renV, dep, optAll, idx, nbeq, renFn, renL]) (go (by decide) ?_) fun _ => rfl⟩
      rw [run73 _ _ _ (by simp)]
      simp (maxSteps := 1000000) (disch := first | omega | decide | assumption | simp [scal]) [lenA_sl lk_22, o_indexAddrS es_22, loadA_eq ia_3, this]
  refine callH_1 rfl hb noIdB_flat (args' := [sl 0 0 p.length c, .func (.func 46) #[] #[]]) (by simp [renV, dep, optAll, idx, nbeq, renFn, renL]) (go (by decide) ?_) fun _ => rfl
  obtain ⟨j, hj, a⟩ := a73 []
  rw [hj, run45 _ _ _ (by simp)]
  by_cases h1 : 0 ≤ j
  · simp (maxSteps := 1000000) (disch := first | omega | decide | assumption | simp [scal]) [a, h1]
  · simp (maxSteps := 1000000) (disch := first | omega | decide | assumption | simp [scal]) [a, h1]
end
/-- the error of a polynomial -/
def chkE (p : List Int) : Int := if p.length = 0 then 2 else if 4 < p.length then 3 else if p.any badC = true then 1 else if p.length = 1 ∨ lst p = 0 then 15 else 0
section
variable (b c : Nat) {cs : List Value} {own : Bool} {p : List Int} {h : List Blk} (hb : h[b]? = some (.cells cs 1 true own)) (hp : PoC cs p)
include hb hp
theorem k21 (hl : p.length ≤ 4000000000) : callH LL 21 [sl b 0 p.length c] h = some ⟨iv (chkE p), h, [b], []⟩ := by
  refine callH_1 rfl hb noIdB_flat (args' := [sl 0 0 p.length c]) (by simp [renV, dep, optAll, idx, nbeq]) (go (by decide) ?_) fun _ => rfl
  rw [run21 _ _ _ (by simp)]
  unfold chkE
  by_cases h1 : p.length = 0
  · have h1' : (p.length : Int) = 0 := by omega
    simp (maxSteps := 1000000) (disch := first | omega | decide | assumption | simp [scal]) [lenA_sl lk_22, o_indexAddrS es_22, loadA_eq ia_3, want_some q21_23g3, h1, h1']
  · have h1' : ¬ (p.length : Int) = 0 := by omega
    by_cases h2 : 4 < p.length
    · have h2' : (4 : Int) < p.length := by omega
      simp (maxSteps := 1000000) (disch := first | omega | decide | assumption | simp [scal]) [lenA_sl lk_22, o_indexAddrS es_22, loadA_eq ia_3, want_some q21_23g3, h1, h1', h2, h2']
    · have h2' : ¬ (4 : Int) < p.length := by omega
      have a45 := k45 0 c (h := [.cells cs 1 true own]) rfl hp (by omega)
      cases h3 : p.any badC
      · rw [h3] at a45
        by_cases h4 : p.length = 1
        · have h4' : (p.length : Int) = 1 := by omega
          rw [h4] at a45
          simp (maxSteps := 1000000) (disch := first | omega | decide | assumption | simp [scal]) [lenA_sl lk_22, o_indexAddrS es_22, loadA_eq ia_3, want_some q21_23g3, h1, h1', h2, h2', a45, h4, h4']
        · have h4' : ¬ (p.length : Int) = 1 := by omega
          have p1 := hp (p.length - 1) (by omega)
          rw [show p.getD (p.length - 1) 0 = lst p from rfl] at p1
          obtain ⟨m, hm⟩ : ∃ m, p.length = m + 1 := ⟨p.length - 1, by omega⟩
          have e1 : ((m + 1 : Nat) : Int) - 1 = m := by omega
          have e2 : m < m + 1 := by omega
          have e3 : (m : Int) < (m : Int) + 1 := by omega
          have e4 : m ≤ 59 := by omega
          have e5 : ¬ m = 0 := by omega
          have e6 : ¬ (m : Int) = 0 := by omega
          have e7 : ¬ (4 : Int) < (m : Int) + 1 := by omega
          have e8 : ¬ 4 < m + 1 := by omega
          have e9 : ¬ (m : Int) + 1 = 1 := by omega
          have e10 : ¬ (m : Int) + 1 = 0 := by omega
          rw [hm] at a45 p1 ⊢
          rw [Nat.add_sub_cancel] at p1
          simp only [cast1] at e1 ⊢
          clear h1 h1' h2 h2' h4 h4' hb hp hl hm
          by_cases h5 : lst p = 0
          · rw [h5] at p1
            simp (maxSteps := 1000000) (disch := first | omega | decide | assumption | simp [scal]) [lenA_sl lk_22, o_indexAddrS es_22, loadA_eq ia_3, want_some q21_23g3, e1, e2, e3, e5, e6, e7, e8, e9, e10, a45, p1, h5]
          · generalize lst p = x at *
            simp (maxSteps := 1000000) (disch := first | omega | decide | assumption | simp [scal]) [lenA_sl lk_22, o_indexAddrS es_22, loadA_eq ia_3, want_some q21_23g3, e1, e2, e3, e5, e6, e7, e8, e9, e10, a45, p1, h5]
      · rw [h3] at a45
        simp (maxSteps := 1000000) (disch := first | omega | decide | assumption | simp [scal]) [lenA_sl lk_22, o_indexAddrS es_22, loadA_eq ia_3, want_some q21_23g3, h1, h1', h2, h2', a45]
end
def goodR (x y : Int) : Bool := decide (-100000 ≤ x) && decide (x ≤ 100000) && decide (1 ≤ y) && decide (y ≤ 1000)
theorem k37 (x y : Int) (h : List Blk) : callH LL 37 [.agg #[iv x, iv y]] h = some ⟨.bool (goodR x y), h, [], []⟩ := by
  refine callH_none rfl (fun _ => rfl) (go (by decide) ?_) fun _ => rfl
  rw [run37 _ _ _ (by simp)]
  unfold goodR
  by_cases h1 : -100000 ≤ x
  · by_cases h2 : x ≤ 100000
    · by_cases h3 : 1 ≤ y
      · by_cases h4 : y ≤ 1000
        · simp (maxSteps := 1000000) (disch := first | omega | decide | assumption | simp [scal]) [o_fieldAddr fa_24_0 (by decide), loadA_eq ia_3, o_fieldAddr fa_24_1 (by decide), want_some q37_3g3, want_some q37_3g8, want_some q37_3g13, h1, h2, h3, h4]
        · simp (maxSteps := 1000000) (disch := first | omega | decide | assumption | simp [scal]) [o_fieldAddr fa_24_0 (by decide), loadA_eq ia_3, o_fieldAddr fa_24_1 (by decide), want_some q37_3g3, want_some q37_3g8, want_some q37_3g13, h1, h2, h3, h4]
      · simp (maxSteps := 1000000) (disch := first | omega | decide | assumption | simp [scal]) [o_fieldAddr fa_24_0 (by decide), loadA_eq ia_3, o_fieldAddr fa_24_1 (by decide), want_some q37_3g3, want_some q37_3g8, want_some q37_3g13, h1, h2, h3]
    · simp (maxSteps := 1000000) (disch := first | omega | decide | assumption | simp [scal]) [o_fieldAddr fa_24_0 (by decide), loadA_eq ia_3, o_fieldAddr fa_24_1 (by decide), want_some q37_3g3, want_some q37_3g8, want_some q37_3g13, h1, h2]
  · simp (maxSteps := 1000000) (disch := first | omega | decide | assumption | simp [scal]) [o_fieldAddr fa_24_0 (by decide), loadA_eq ia_3, o_fieldAddr fa_24_1 (by decide), want_some q37_3g3, want_some q37_3g8, want_some q37_3g13, h1]
theorem good_bd {x y : Int} (h : goodR x y = true) : -100000 ≤ x ∧ x ≤ 100000 ∧ 1 ≤ y ∧ y ≤ 1000 := by
  unfold goodR at h
  simp only [Bool.and_eq_true, decide_eq_true_eq] at h
  omega
end Go.Proofs.Ytkmompbfcgjgmaa.nt
namespace Go.Proofs.Ytkmompbfcgjgmaa.nt
open Go.GE
set_option linter.unusedVariables false
set_option linter.unusedSimpArgs false
set_option linter.unusedSectionVars false
set_option maxRecDepth 100000
set_option maxHeartbeats 4000000
def vAt (S : List (List Int)) (x y : Int) : Nat := chN (S.map fun q => sgP q x y) 0 0
def evA (S : List (List Int)) (x y : Int) : Bool := S.all fun q => evB x y q.reverse 0 1 && Nat.ble 1 q.length && Nat.ble q.length 60
theorem stu_eq {p : List Int} : stu p = bif Nat.beq (lea (slp (cor p))).length 1 then [cor p, lea (slp (cor p))] else bif Nat.beq (nxt (cor p) (lea (slp (cor p)))).length 1 then [cor p, lea (slp (cor p)), nxt (cor p) (lea (slp (cor p)))] else [cor p, lea (slp (cor p)), nxt (cor p) (lea (slp (cor p))), nxt (lea (slp (cor p))) (nxt (cor p) (lea (slp (cor p))))] := rfl
theorem stu_cases {p : List Int} (hB : stuB p = true) : (∃ q1 q2, stu p = [q1, q2]) ∨ (∃ q1 q2 q3, stu p = [q1, q2, q3]) ∨ ∃ q1 q2 q3 q4, stu p = [q1, q2, q3, q4] := by
  rw [stu_eq]
  cases Nat.beq (lea (slp (cor p))).length 1
  · rw [cond_false]
    cases h : Nat.beq (nxt (cor p) (lea (slp (cor p)))).length 1
    · rw [cond_false]; exact .inr (.inr ⟨_, _, _, _, rfl⟩)
    · rw [cond_true]; exact .inr (.inl ⟨_, _, _, rfl⟩)
  · rw [cond_true]; exact .inl ⟨_, _, rfl⟩
end Go.Proofs.Ytkmompbfcgjgmaa.nt
namespace Go.Proofs.Ytkmompbfcgjgmaa.nt
open Go.GE
set_option linter.unusedVariables false
set_option linter.unusedSimpArgs false
set_option linter.unusedSectionVars false
set_option maxRecDepth 100000
set_option maxHeartbeats 4000000
theorem app_g {h : List Blk} {b c l : Nat} {V : List Value} {v : Value} {fl : Bool} {rd : List Nat} (hl : V.length = l) (h60 : l ≤ 60) (h1 : cellV v = true) : appS h 1 24 b 0 l c (some (.cells V 1 false true)) (some (1, [v], fl, rd)) = some ⟨.slice (some ⟨h.length, 0, none⟩) (l + 1) (l + 1), h.set b .dead ++ [.cells (V ++ [v]) 1 false true], b :: rd, [b]⟩ := by
  have hr := rdN_all V l 0 (by omega)
  simp only [appS, Nat.mul_one, hr, List.drop_zero, List.all_cons, List.all_nil, h1]
  rw [if_pos (by refine ⟨by omega, by omega, trivial, rfl⟩)]
  rfl
end Go.Proofs.Ytkmompbfcgjgmaa.nt
namespace Go.Proofs.Ytkmompbfcgjgmaa.nt
open Go.GE
set_option linter.unusedVariables false
set_option linter.unusedSimpArgs false
set_option linter.unusedSectionVars false
set_option maxRecDepth 100000
set_option maxHeartbeats 4000000
abbrev bv (n : Int) : Value := .int .i8 n
def I8 (v : Int) : Prop := -128 ≤ v ∧ v < 128
end Go.Proofs.Ytkmompbfcgjgmaa.nt
namespace Go.Proofs.Ytkmompbfcgjgmaa.nt
open Go.GE
set_option linter.unusedVariables false
set_option linter.unusedSimpArgs false
set_option linter.unusedSectionVars false
set_option maxRecDepth 100000
set_option maxHeartbeats 4000000
theorem mk22 {σ : Tm} {h : List Blk} {d : Option Nat} {ty : TypeId} {pos : String} {af : Array Edge} {g : Option (Nat × Bool)} {x y : Operand} : aop Try.prog LL σ h ⟨d, .makeSlice 22 x y, ty, pos, af, g⟩ = (match opd σ x, opd σ y with
    | some (.int _ n), some (.int _ k) => if 0 ≤ n ∧ n ≤ k ∧ k * 8 ≤ 70368744177664 ∧ k ≤ 70368744177664 then allocR h (.cells (List.replicate k.toNat (iv 0)) 1 true true) fun b => .slice (some ⟨b, 0, none⟩) n.toNat k.toNat else none
    | _, _ => none) := by
  have e1 : Try.prog.underlying 22 = some (.slice 3) := by kernel_rfl
  have e2 : (Try.prog.info? 3).map (fun i => (i.bytes, i.size)) = some (8, 1) := by kernel_rfl
  have e3 : zeroA Try.prog 3 = some (iv 0) := by kernel_rfl
  obtain ⟨i, hi, hp⟩ := Option.map_eq_some_iff.1 e2
  obtain ⟨h8, h1⟩ := Prod.mk.inj hp
  have hfl : ∀ k : Nat, (List.replicate k [iv 0]).flatten = List.replicate k (iv 0) := fun k => List.flatten_replicate_singleton
  simp only [aop, e1, e2, e3, hi, h8, h1]
  cases opd σ x with
  | none => rfl
  | some v =>
    cases v <;> try rfl
    cases opd σ y with
    | none => rfl
    | some w =>
      cases w <;> try rfl
      rename_i k1 n k2 m
      simp only [e3, hi, h8, h1]
      by_cases hc : 0 ≤ n ∧ n ≤ m ∧ m * 8 ≤ 70368744177664 ∧ m ≤ 70368744177664
      · rw [if_pos hc, if_pos ⟨hc.1, hc.2.1, by have := hc.2.2.1; omega, by have := hc.2.2.2; omega, by decide, rfl⟩]
        show allocR h (.cells ((List.replicate m.toNat [iv 0]).flatten) 1 true true) _ = _
        rw [hfl]
      · rw [if_neg hc, if_neg (fun h => hc ⟨h.1, h.2.1, by have := h.2.2.1; omega, by have := h.2.2.2.1; omega⟩)]
end Go.Proofs.Ytkmompbfcgjgmaa.nt
namespace Go.Proofs.Ytkmompbfcgjgmaa.nt
open Go.GE
set_option linter.unusedVariables false
set_option linter.unusedSimpArgs false
set_option linter.unusedSectionVars false
set_option maxRecDepth 100000
set_option maxHeartbeats 4000000
abbrev uv (n : Nat) : Value := .int .u8 (n : Int)
end Go.Proofs.Ytkmompbfcgjgmaa.nt
namespace Go.Proofs.Ytkmompbfcgjgmaa.nt
open Go.GE
set_option linter.unusedVariables false
set_option linter.unusedSimpArgs false
set_option linter.unusedSectionVars false
set_option maxRecDepth 100000
set_option maxHeartbeats 4000000
theorem getD_big {L : List Int} {i : Nat} (h : L.length ≤ i) : L.getD i 0 = 0 := by
  rw [List.getD_eq_getElem?_getD, List.getElem?_eq_none h]; rfl
theorem dgL_spec {p : List Int} : ∀ q i k, k ≤ i → (∀ j, k ≤ j → j < i → p.getD j 0 = 0) → (k = 0 ∨ p.getD (k - 1) 0 ≠ 0) →
    (∀ j, dgL p q i k ≤ j → j < i + q → p.getD j 0 = 0) ∧ (dgL p q i k = 0 ∨ p.getD (dgL p q i k - 1) 0 ≠ 0) := by
  intro q
  induction q with
  | zero => intro i k h1 h2 h3; exact ⟨h2, h3⟩
  | succ q ih =>
    intro i k h1 h2 h3
    unfold dgL
    by_cases h : p.getD i 0 = 0
    · rw [if_pos h]
      have := ih (i + 1) k (by omega) (fun j a b => by
        by_cases e : j = i
        · rw [e]; exact h
        · exact h2 j a (by omega)) h3
      rw [show i + 1 + q = i + (q + 1) by omega] at this
      exact this
    · rw [if_neg h]
      have := ih (i + 1) (i + 1) (by omega) (fun j a b => by omega) (.inr h)
      rw [show i + 1 + q = i + (q + 1) by omega] at this
      exact this
theorem dgP_spec {p : List Int} : (∀ j, dgP p ≤ j → p.getD j 0 = 0) ∧ (dgP p = 0 ∨ p.getD (dgP p - 1) 0 ≠ 0) := by
  have := dgL_spec (p := p) p.length 0 0 (by omega) (fun j a b => by omega) (.inl rfl)
  rw [Nat.zero_add] at this
  refine ⟨fun j h => ?_, this.2⟩
  by_cases hj : j < p.length
  · exact this.1 j h hj
  · exact getD_big (by omega)
theorem dgP_uniq {p : List Int} {n : Nat} (h1 : ∀ j, n ≤ j → p.getD j 0 = 0) (h2 : n = 0 ∨ p.getD (n - 1) 0 ≠ 0) : dgP p = n := by
  obtain ⟨a1, a2⟩ := dgP_spec (p := p)
  by_cases c1 : dgP p < n
  · rcases h2 with h2 | h2
    · omega
    · exact absurd (a1 (n - 1) (by omega)) h2
  · by_cases c2 : n < dgP p
    · rcases a2 with a2 | a2
      · omega
      · exact absurd (h1 (dgP p - 1) (by omega)) a2
    · omega
theorem gcL_spec {p : List Int} : ∀ q i d, gcL p q i d ∣ d ∧ (∀ j, i ≤ j → j < i + q → gcL p q i d ∣ (p.getD j 0).natAbs) ∧ ∀ z, z ∣ d → (∀ j, i ≤ j → j < i + q → z ∣ (p.getD j 0).natAbs) → z ∣ gcL p q i d := by
  intro q
  induction q with
  | zero => intro i d; exact ⟨Nat.dvd_refl d, fun j a b => by omega, fun z h _ => h⟩
  | succ q ih =>
    intro i d
    obtain ⟨a, b, c⟩ := ih (i + 1) (Nat.gcd d (p.getD i 0).natAbs)
    unfold gcL
    refine ⟨Nat.dvd_trans a (Nat.gcd_dvd_left ..), fun j h1 h2 => ?_, fun z h1 h2 => c z (Nat.dvd_gcd h1 (h2 i (by omega) (by omega))) fun j h3 h4 => h2 j (by omega) (by omega)⟩
    by_cases e : j = i
    · rw [e]; exact Nat.dvd_trans a (Nat.gcd_dvd_right ..)
    · exact b j (by omega) (by omega)
theorem gcP_dvd {p : List Int} (j : Nat) : (gcP p : Int) ∣ p.getD j 0 := by
  by_cases h : j < p.length
  · have := (gcL_spec (p := p) p.length 0 0).2.1 j (by omega) (by omega)
    exact Int.ofNat_dvd_left.2 this
  · rw [getD_big (by omega)]; exact Int.dvd_zero _
theorem gcP_max {p : List Int} {z : Nat} (h : ∀ j, (z : Int) ∣ p.getD j 0) : z ∣ gcP p := (gcL_spec (p := p) p.length 0 0).2.2 z (Nat.dvd_zero _) fun j _ _ => Int.ofNat_dvd_left.1 (h j)
theorem gcP_ne {p : List Int} {j : Nat} (h : p.getD j 0 ≠ 0) : 0 < gcP p := by
  have := gcP_dvd (p := p) j
  rcases Nat.eq_zero_or_pos (gcP p) with e | e
  · rw [e] at this
    exact absurd (Int.zero_dvd.1 this) h
  · exact e
theorem tms_gd {p : List Int} {m : Int} (i : Nat) : (tms p m).getD i 0 = p.getD i 0 * m := by
  by_cases h : i < p.length
  · simp [tms, List.getD_eq_getElem?_getD, h]
  · rw [getD_big (by rw [tms_len]; omega), getD_big (by omega), Int.zero_mul]
theorem lea_gd {p : List Int} (i : Nat) : (lea p).getD i 0 = (p.getD i 0).tdiv (gcP p) := by
  by_cases h : i < dgP p
  · simp [lea, List.getD_eq_getElem?_getD, h]
  · rw [getD_big (by rw [lea_len]; omega), (dgP_spec (p := p)).1 i (by omega), Int.zero_tdiv]
theorem lea_mul {p : List Int} (i : Nat) : (gcP p : Int) * (lea p).getD i 0 = p.getD i 0 := by
  rw [lea_gd]
  exact Int.mul_tdiv_cancel' (gcP_dvd i)
theorem gcP_tms {p : List Int} {m : Nat} : gcP (tms p m) = gcP p * m := by
  apply Nat.dvd_antisymm
  · rcases Nat.eq_zero_or_pos m with e | e
    · subst e; rw [Nat.mul_zero]; exact Nat.dvd_zero _
    · have hm : m ∣ gcP (tms p m) := gcP_max fun j => by rw [tms_gd]; exact Int.dvd_mul_left _ _
      obtain ⟨z, hz⟩ := hm
      rw [hz, Nat.mul_comm]
      refine Nat.mul_dvd_mul_right (gcP_max fun j => ?_) m
      have := gcP_dvd (p := tms p m) j
      rw [tms_gd, hz, Int.natCast_mul, Int.mul_comm (m : Int)] at this
      exact Int.dvd_of_mul_dvd_mul_right (by omega) this
  · refine gcP_max fun j => ?_
    rw [tms_gd, Int.natCast_mul]
    exact Int.mul_dvd_mul (gcP_dvd j) (Int.dvd_refl _)
theorem gcP_congr {p q : List Int} (h : ∀ j, p.getD j 0 = q.getD j 0) : gcP p = gcP q :=
  Nat.dvd_antisymm (gcP_max fun j => by rw [← h]; exact gcP_dvd j) (gcP_max fun j => by rw [h]; exact gcP_dvd j)
/-- the same but for a factor above 0 -/
def Pro (p q : List Int) : Prop := ∃ m k : Nat, 0 < m ∧ 0 < k ∧ ∀ i, p.getD i 0 * m = q.getD i 0 * k
theorem Pro.symm {p q : List Int} (h : Pro p q) : Pro q p := by
  obtain ⟨m, k, h1, h2, h3⟩ := h
  exact ⟨k, m, h2, h1, fun i => (h3 i).symm⟩
theorem Pro.trans {p q r : List Int} (h : Pro p q) (g : Pro q r) : Pro p r := by
  obtain ⟨m, k, h1, h2, h3⟩ := h
  obtain ⟨m', k', g1, g2, g3⟩ := g
  refine ⟨m * m', k * k', Nat.mul_pos h1 g1, Nat.mul_pos h2 g2, fun i => ?_⟩
  have a := h3 i
  have b := g3 i
  rw [Int.natCast_mul, Int.natCast_mul, ← Int.mul_assoc, a, Int.mul_assoc, Int.mul_comm (k : Int), ← Int.mul_assoc, b, Int.mul_assoc, Int.mul_comm (k' : Int)]
theorem Pro.zero {p q : List Int} (h : Pro p q) (i : Nat) : p.getD i 0 = 0 ↔ q.getD i 0 = 0 := by
  obtain ⟨m, k, h1, h2, h3⟩ := h
  have := h3 i
  constructor
  · intro e
    rw [e, Int.zero_mul] at this
    rcases Int.mul_eq_zero.1 this.symm with h | h
    · exact h
    · omega
  · intro e
    rw [e, Int.zero_mul] at this
    rcases Int.mul_eq_zero.1 this with h | h
    · exact h
    · omega
theorem Pro.dg {p q : List Int} (h : Pro p q) : dgP p = dgP q := by
  obtain ⟨a1, a2⟩ := dgP_spec (p := q)
  exact dgP_uniq (fun j hj => (h.zero j).2 (a1 j hj)) (a2.imp id fun e g => e ((h.zero _).1 g))
theorem Pro.lea {p q : List Int} (h : Pro p q) : lea p = lea q := by
  have hd := h.dg
  obtain ⟨m, k, h1, h2, h3⟩ := h
  have hg : gcP p * m = gcP q * k := by
    rw [← gcP_tms, ← gcP_tms]
    exact gcP_congr fun j => by rw [tms_gd, tms_gd, h3]
  apply List.ext_getElem?
  intro i
  by_cases hi : i < dgP p
  · have e : ∀ L : List Int, i < L.length → L[i]? = some (L.getD i 0) := fun L hL => by
      rw [List.getD_eq_getElem?_getD, List.getElem?_eq_getElem hL]; rfl
    rw [e _ (by rw [lea_len]; exact hi), e _ (by rw [lea_len]; omega)]
    congr 1
    have hp : 0 < gcP p := by
      rcases (dgP_spec (p := p)).2 with e | e
      · omega
      · exact gcP_ne e
    have a := lea_mul (p := p) i
    have b := lea_mul (p := q) i
    have c := h3 i
    rw [← a, ← b] at c
    have d : (gcP p : Int) * m = gcP q * k := by rw [← Int.natCast_mul, hg, Int.natCast_mul]
    have c : ((gcP p : Int) * m) * (nt.lea p).getD i 0 = (gcP q * k) * (nt.lea q).getD i 0 := by
      rw [Int.mul_right_comm, c, Int.mul_right_comm]
    rw [← d] at c
    exact Int.eq_of_mul_eq_mul_left (by rw [← Int.natCast_mul]; have := Nat.mul_pos hp h1; omega) c
  · rw [List.getElem?_eq_none (by rw [lea_len]; omega), List.getElem?_eq_none (by rw [lea_len]; omega)]
theorem lea_pro {p : List Int} : Pro p (lea p) := by
  rcases Nat.eq_zero_or_pos (gcP p) with e | e
  · refine ⟨1, 1, by decide, by decide, fun i => ?_⟩
    have := lea_mul (p := p) i
    have z := gcP_dvd (p := p) i
    rw [e] at z
    rw [lea_gd, Int.zero_dvd.1 z]
    simp
  · refine ⟨1, gcP p, by decide, e, fun i => ?_⟩
    rw [Int.mul_comm _ (gcP p : Int), lea_mul]
    simp
theorem lea_lea {p : List Int} : lea (lea p) = lea p := lea_pro.symm.lea
theorem Pro.tms {p : List Int} {m : Nat} (h : 0 < m) : Pro p (tms p m) := ⟨m, 1, h, by decide, fun i => by rw [tms_gd]; simp⟩
theorem lea_neg {p : List Int} : lea (tms p (-1)) = tms (lea p) (-1) := by
  have hg : gcP (nt.tms p (-1)) = gcP p := Nat.dvd_antisymm (gcP_max fun j => by
      have := gcP_dvd (p := nt.tms p (-1)) j
      rw [tms_gd] at this
      exact (Int.dvd_neg.1 (by rw [show -(p.getD j 0) = p.getD j 0 * -1 by omega]; exact this))) (gcP_max fun j => by
      rw [tms_gd]; exact Int.dvd_trans (gcP_dvd j) (Int.dvd_mul_right _ _))
  have hd : dgP (nt.tms p (-1)) = dgP p := by
    obtain ⟨a1, a2⟩ := dgP_spec (p := p)
    exact dgP_uniq (fun j hj => by rw [tms_gd, a1 j hj]; rfl) (a2.imp id fun e g => e (by rw [tms_gd] at g; omega))
  unfold nt.lea
  rw [hg, hd]
  unfold nt.tms
  rw [List.length_map, List.length_range]
  refine List.map_congr_left fun i hi => ?_
  have hi := List.mem_range.1 hi
  have h1 := tms_gd (p := p) (m := -1) i
  have h2 := lea_gd (p := p) i
  unfold nt.tms at h1
  unfold nt.lea at h2
  rw [h1, h2, Int.mul_neg_one, Int.neg_tdiv, Int.mul_neg_one]
theorem lea_last {p : List Int} (h0 : 0 < p.length) (h : p.getD (p.length - 1) 0 ≠ 0) : dgP p = p.length := dgP_uniq (fun j hj => getD_big hj) (.inr h)
end Go.Proofs.Ytkmompbfcgjgmaa.nt
namespace Go.Proofs.Ytkmompbfcgjgmaa.nt
open Go.GE
set_option linter.unusedVariables false
set_option linter.unusedSimpArgs false
set_option linter.unusedSectionVars false
set_option maxRecDepth 100000
set_option maxHeartbeats 4000000
theorem trm_spec {p : List Int} : ∀ k, (∀ j, trmN p k ≤ j → j < k → p.getD j 0 = 0) ∧ (trmN p k = 0 ∨ p.getD (trmN p k - 1) 0 ≠ 0) := by
  intro k
  induction k with
  | zero => exact ⟨fun j a b => by omega, .inl rfl⟩
  | succ k ih =>
    unfold trmN
    by_cases h : p.getD k 0 = 0
    · rw [if_pos h]
      refine ⟨fun j a b => ?_, ih.2⟩
      by_cases e : j = k
      · rw [e]; exact h
      · exact ih.1 j a (by omega)
    · rw [if_neg h]
      exact ⟨fun j a b => by omega, .inr h⟩
theorem stp2_gd {p o : List Int} (h : o.length ≤ p.length) (i : Nat) : (stp2 p o).getD i 0 = if p.length - o.length ≤ i then p.getD i 0 * sz o - lead p o * o.getD (i - (p.length - o.length)) 0 else p.getD i 0 * sz o := by
  by_cases hi : i < p.length
  · unfold stp2
    rw [List.getD_eq_getElem?_getD, List.getElem?_map, List.getElem?_range hi]
    rfl
  · rw [getD_big (by rw [stp2_len]; omega), getD_big (L := p) (by omega), if_pos (by omega), getD_big (L := o) (by omega)]
    simp
theorem take_gd {p : List Int} {n i : Nat} : (p.take n).getD i 0 = if i < n then p.getD i 0 else 0 := by
  rw [List.getD_eq_getElem?_getD, List.getElem?_take, List.getD_eq_getElem?_getD]
  split <;> rfl
theorem stpP_gd {p o : List Int} (h : o.length ≤ p.length) (i : Nat) : (stpP p o).getD i 0 = if p.length - o.length ≤ i then p.getD i 0 * sz o - lead p o * o.getD (i - (p.length - o.length)) 0 else p.getD i 0 * sz o := by
  rw [← stp2_gd h]
  unfold stpP
  rw [take_gd]
  by_cases c : i < trmN (stp2 p o) p.length
  · rw [if_pos c]
  · rw [if_neg c]
    by_cases d : i < p.length
    · exact ((trm_spec (p := stp2 p o) p.length).1 i (by omega) d).symm
    · rw [getD_big (by rw [stp2_len]; omega)]
theorem stpQ_len {p o q : List Int} : (stpQ p o q).length = q.length := by simp [stpQ, tms_len]
theorem stpQ_gd {p o q : List Int} (h : p.length - o.length < q.length) (i : Nat) : (stpQ p o q).getD i 0 = q.getD i 0 * sz o + if i = p.length - o.length then lead p o else 0 := by
  unfold stpQ
  rw [List.getD_eq_getElem?_getD, List.getElem?_set]
  by_cases c : i = p.length - o.length
  · rw [if_pos c.symm, if_pos (by rw [tms_len]; omega), if_pos c, ← c, tms_gd]; rfl
  · rw [if_neg (fun e => c e.symm), if_neg c, ← List.getD_eq_getElem?_getD, tms_gd]; omega
theorem ovr_stop {f : Nat} {p o q : List Int} (h : p.length < o.length) : ovr f p o q = (q, p) := by
  cases f with
  | zero => rfl
  | succ f => unfold ovr; rw [nblt, decide_eq_true h, cond_true]
theorem ovr_step {f : Nat} {p o q : List Int} (h : o.length ≤ p.length) : ovr (f + 1) p o q = ovr f (stpP p o) o (stpQ p o q) := by
  rw [ovr.eq_2, nblt, decide_eq_false (by omega), cond_false]
def BdL (M : Nat) (p : List Int) : Prop := ∀ i, (p.getD i 0).natAbs ≤ M
theorem BdL.all {M : Nat} {p : List Int} (h : BdL M p) (hM : M ≤ 4611686018427387904) : allB p = true := by
  unfold allB
  rw [List.all_eq_true]
  intro x hx
  rw [decide_eq_true_eq]
  obtain ⟨i, hi, rfl⟩ := List.getElem_of_mem hx
  have := h i
  rw [List.getD_eq_getElem?_getD, List.getElem?_eq_getElem hi] at this
  exact Nat.le_trans this hM
theorem BdL.mono {M N : Nat} {p : List Int} (h : BdL M p) (hM : M ≤ N) : BdL N p := fun i => Nat.le_trans (h i) hM
theorem BdL.tms {M : Nat} {p : List Int} {m : Int} {k : Nat} (h : BdL M p) (hm : m.natAbs ≤ k) : BdL (M * k) (tms p m) := fun i => by
  rw [tms_gd, Int.natAbs_mul]; exact Nat.mul_le_mul (h i) hm
theorem sg_abs {z : Int} : (sg z).natAbs ≤ 1 := by unfold sg; split <;> (try split) <;> decide
theorem BdL.lead {A : Nat} {p o : List Int} (h : BdL A p) : (lead p o).natAbs ≤ A := by
  unfold nt.lead
  rw [Int.natAbs_mul]
  have := Nat.mul_le_mul (h (p.length - 1)) (sg_abs (z := lst o))
  rw [Nat.mul_one] at this
  exact this
theorem BdL.sz {B : Nat} {o : List Int} (h : BdL B o) : (sz o).natAbs ≤ B := by
  unfold nt.sz
  rw [Int.natAbs_natCast]
  exact h _
theorem bd_stp {A B : Nat} {p o : List Int} (hp : BdL A p) (ho : BdL B o) (h : o.length ≤ p.length) : BdL (A * (2 * B + 1)) (stp2 p o) := fun i => by
  rw [stp2_gd h]
  have a : (p.getD i 0 * sz o).natAbs ≤ A * B := by rw [Int.natAbs_mul]; exact Nat.mul_le_mul (hp i) ho.sz
  have b : (lead p o * o.getD (i - (p.length - o.length)) 0).natAbs ≤ A * B := by rw [Int.natAbs_mul]; exact Nat.mul_le_mul hp.lead (ho _)
  have e : A * (2 * B + 1) = A * B + A * B + A := by rw [Nat.mul_add, Nat.mul_one, ← Nat.mul_assoc, Nat.mul_comm A 2, Nat.mul_assoc, Nat.two_mul]
  rw [e]
  split
  · have := Int.natAbs_sub_le (p.getD i 0 * sz o) (lead p o * o.getD (i - (p.length - o.length)) 0)
    omega
  · omega
theorem bd_stpP {A B : Nat} {p o : List Int} (hp : BdL A p) (ho : BdL B o) (h : o.length ≤ p.length) : BdL (A * (2 * B + 1)) (stpP p o) := fun i => by
  rw [stpP_gd h, ← stp2_gd h]; exact bd_stp hp ho h i
theorem bd_stpQ {A B : Nat} {p o q : List Int} (hp : BdL A p) (ho : BdL B o) (hq : BdL A q) (h : p.length - o.length < q.length) : BdL (A * (2 * B + 1)) (stpQ p o q) := fun i => by
  rw [stpQ_gd h]
  have a : (q.getD i 0 * sz o).natAbs ≤ A * B := by rw [Int.natAbs_mul]; exact Nat.mul_le_mul (hq i) ho.sz
  have b := hp.lead (o := o)
  have e : A * (2 * B + 1) = A * B + A * B + A := by rw [Nat.mul_add, Nat.mul_one, ← Nat.mul_assoc, Nat.mul_comm A 2, Nat.mul_assoc, Nat.two_mul]
  rw [e]
  have c : (if i = p.length - o.length then lead p o else 0).natAbs ≤ A := by split; exact b; exact Nat.zero_le _
  have := Int.natAbs_add_le (q.getD i 0 * sz o) (if i = p.length - o.length then lead p o else 0)
  omega
theorem ovr_ok {B : Nat} {o : List Int} (ho : BdL B o) (hB : 1 ≤ B) (h0 : 0 < o.length) : ∀ (f A : Nat) (p q : List Int), BdL A p → BdL A q → 1 ≤ A → p.length - o.length < q.length ∨ p.length < o.length → B ≤ 4611686018427387904 → A * (2 * B + 1) ^ (p.length + 1 - o.length) ≤ 4611686018427387904 →
    ovrB f p o q = true ∧ allB (ovr f p o q).1 = true ∧ allB (ovr f p o q).2 = true := by
  intro f
  induction f with
  | zero =>
    intro A p q hp hq hA hl hB2 hM
    have : A * 1 ≤ A * (2 * B + 1) ^ (p.length + 1 - o.length) := Nat.mul_le_mul_left _ (Nat.pow_pos (by omega))
    exact ⟨rfl, hq.all (by omega), hp.all (by omega)⟩
  | succ f ih =>
    intro A p q hp hq hA hl hB2 hM
    have hA1 : A * 1 ≤ A * (2 * B + 1) ^ (p.length + 1 - o.length) := Nat.mul_le_mul_left _ (Nat.pow_pos (by omega))
    by_cases c : p.length < o.length
    · rw [ovr_stop c]
      refine ⟨?_, hq.all (by omega), hp.all (by omega)⟩
      unfold ovrB
      rw [nblt, decide_eq_true c, cond_true]
    · rw [ovr_step (by omega)]
      have hl : p.length - o.length < q.length := by omega
      have hlt := stpP_lt h0 (show o.length ≤ p.length by omega)
      obtain ⟨k, hk⟩ : ∃ k, p.length + 1 - o.length = k + 1 := ⟨p.length - o.length, by omega⟩
      rw [hk, Nat.pow_succ, Nat.mul_comm ((2 * B + 1) ^ k), ← Nat.mul_assoc] at hM
      have hA2 : A * (2 * B + 1) * 1 ≤ A * (2 * B + 1) * (2 * B + 1) ^ k := Nat.mul_le_mul_left _ (Nat.pow_pos (by omega))
      have hA3 : A * 1 ≤ A * (2 * B + 1) := Nat.mul_le_mul_left _ (by omega)
      have bp := bd_stpP hp ho (show o.length ≤ p.length by omega)
      have bq := bd_stpQ hp ho hq hl
      obtain ⟨i1, i2, i3⟩ := ih (A * (2 * B + 1)) (stpP p o) (stpQ p o q) bp bq (by omega) (by rw [stpQ_len]; omega) hB2 (by
        refine Nat.le_trans (Nat.mul_le_mul_left _ (Nat.pow_le_pow_right (by omega) ?_)) hM
        omega)
      refine ⟨?_, i2, i3⟩
      unfold ovrB
      rw [nblt, decide_eq_false (by omega), cond_false, i1, Bool.and_true]
      have eAB : A * (2 * B + 1) = A * B + A * B + A := by rw [Nat.mul_add, Nat.mul_one, ← Nat.mul_assoc, Nat.mul_comm A 2, Nat.mul_assoc, Nat.two_mul]
      have hAB : A * B ≤ 4611686018427387904 := by omega
      have hBA : B * A ≤ 4611686018427387904 := by rw [Nat.mul_comm]; exact hAB
      unfold stpB
      rw [hp.all (by omega), ho.all hB2, (hp.tms ho.sz).all hAB, (hq.tms ho.sz).all hAB, bq.all (by omega), (ho.tms hp.lead).all hBA, (bd_stp hp ho (by omega)).all (by omega)]
      have := hp.lead (o := o)
      simp only [Bool.true_and, Bool.and_true, decide_eq_true_eq]
      omega
theorem ovB_of {A B : Nat} {p o : List Int} (hp : BdL A p) (ho : BdL B o) (hA : 1 ≤ A) (hB : 1 ≤ B) (h0 : 0 < o.length) (hB2 : B ≤ 4611686018427387904) (hM : A * (2 * B + 1) ^ (p.length + 1 - o.length) ≤ 4611686018427387904) : ovB p o = true := by
  obtain ⟨h1, h2, h3⟩ := ovr_ok ho hB h0 p.length A p (List.replicate (p.length - o.length + 1) 0) hp (fun i => by
    have : (List.replicate (p.length - o.length + 1) (0 : Int)).getD i 0 = 0 := by
      rw [List.getD_eq_getElem?_getD, List.getElem?_replicate]; split <;> rfl
    rw [this]; exact Nat.zero_le _) hA (.inl (by simp)) hB2 hM
  unfold ovB ovF
  rw [h1, h2, h3]
  rfl
end Go.Proofs.Ytkmompbfcgjgmaa.nt
namespace Go.Proofs.Ytkmompbfcgjgmaa.nt
open Go.GE
set_option linter.unusedVariables false
set_option linter.unusedSimpArgs false
set_option linter.unusedSectionVars false
set_option maxRecDepth 100000
set_option maxHeartbeats 4000000
theorem Pro_int {p q : List Int} {m k : Int} (hm : 0 < m) (hk : 0 < k) (h : ∀ i, p.getD i 0 * m = q.getD i 0 * k) : Pro p q :=
  ⟨m.toNat, k.toNat, by omega, by omega, fun i => by rw [show ((m.toNat : Nat) : Int) = m by omega, show ((k.toNat : Nat) : Int) = k by omega]; exact h i⟩
theorem Pro_1 {p : List Int} {u m k : Int} (hl : p.length ≤ 1) (hm : 0 < m) (hk : 0 < k) (h0 : p.getD 0 0 * m = u * k) : Pro p [u] :=
  Pro_int hm hk fun i => by
    rcases i with _ | i
    · exact h0
    · rw [getD_big (L := p) (by omega), getD_big (by simp)]; simp
theorem Pro_2 {p : List Int} {u v m k : Int} (hl : p.length ≤ 2) (hm : 0 < m) (hk : 0 < k) (h0 : p.getD 0 0 * m = u * k) (h1 : p.getD 1 0 * m = v * k) : Pro p [u, v] :=
  Pro_int hm hk fun i => by
    rcases i with _ | _ | i
    · exact h0
    · exact h1
    · rw [getD_big (L := p) (by omega), getD_big (by simp)]; simp
theorem Pro_3 {p : List Int} {u v w m k : Int} (hl : p.length ≤ 3) (hm : 0 < m) (hk : 0 < k) (h0 : p.getD 0 0 * m = u * k) (h1 : p.getD 1 0 * m = v * k) (h2 : p.getD 2 0 * m = w * k) : Pro p [u, v, w] :=
  Pro_int hm hk fun i => by
    rcases i with _ | _ | _ | i
    · exact h0
    · exact h1
    · exact h2
    · rw [getD_big (L := p) (by omega), getD_big (by simp)]; simp
/-- a sign and a size -/
theorem sg_split {z : Int} (h : z ≠ 0) : ∃ σ s : Int, (σ = 1 ∨ σ = -1) ∧ 0 < s ∧ z = σ * s ∧ sg z = σ ∧ (z.natAbs : Int) = s := by
  by_cases c : 0 < z
  · exact ⟨1, z, .inl rfl, c, by omega, by unfold sg; rw [if_pos c], by omega⟩
  · exact ⟨-1, -z, .inr rfl, by omega, by omega, by unfold sg; rw [if_neg c, if_pos (by omega)], by omega⟩
theorem ov43 {d c b a o0 o1 o2 g : Int} (ha : a ≠ 0) (hg : 0 < g) (h0 : g * o0 = c) (h1 : g * o1 = 2 * b) (h2 : g * o2 = 3 * a) :
    Pro (ovF [d, c, b, a] [o0, o1, o2]).2 [a * (9 * a * d - b * c), a * (6 * a * c - 2 * b * b)] ∧ Pro (ovF [d, c, b, a] [o0, o1, o2]).1 [a * b, 3 * a * a] := by
  have ho : o2 ≠ 0 := by intro e; rw [e] at h2; omega
  obtain ⟨σ, s, hσ, hs, e1, e2, e3⟩ := sg_split ho
  have es : sz [o0, o1, o2] = s := e3
  have en : ∀ p : List Int, lead p [o0, o1, o2] = lst p * σ := fun p => by rw [← e2]; rfl
  have eF : ovF [d, c, b, a] [o0, o1, o2] = ovr 3 (stpP [d, c, b, a] [o0, o1, o2]) [o0, o1, o2] (stpQ [d, c, b, a] [o0, o1, o2] [0, 0]) := by
    show ovr 4 _ _ [0, 0] = _
    rw [ovr_step (by simp)]
  have hx := stpP_lt (p := [d, c, b, a]) (o := [o0, o1, o2]) (by simp) (by simp)
  have X0 : (stpP [d, c, b, a] [o0, o1, o2]).getD 0 0 = d * s := by rw [stpP_gd (by simp), es]; simp
  have X1 : (stpP [d, c, b, a] [o0, o1, o2]).getD 1 0 = c * s - a * σ * o0 := by rw [stpP_gd (by simp), es, en]; simp [lst]
  have X2 : (stpP [d, c, b, a] [o0, o1, o2]).getD 2 0 = b * s - a * σ * o1 := by rw [stpP_gd (by simp), es, en]; simp [lst]
  have Y0 : (stpQ [d, c, b, a] [o0, o1, o2] [0, 0]).getD 0 0 = 0 := by rw [stpQ_gd (by simp), es, en]; simp [lst]
  have Y1 : (stpQ [d, c, b, a] [o0, o1, o2] [0, 0]).getD 1 0 = a * σ := by rw [stpQ_gd (by simp), es, en]; simp [lst]
  have hy : (stpQ [d, c, b, a] [o0, o1, o2] [0, 0]).length = 2 := by rw [stpQ_len]; rfl
  rw [eF]
  generalize stpP [d, c, b, a] [o0, o1, o2] = x at *
  generalize stpQ [d, c, b, a] [o0, o1, o2] [0, 0] = y at *
  have hx : x.length < 4 := hx
  have hA : ∃ A : Int, 0 < A ∧ a = σ * A ∧ g * s = 3 * A := by
    refine ⟨a * σ, ?_, ?_, ?_⟩
    · have : 0 < g * s := Int.mul_pos hg hs
      rcases hσ with rfl | rfl
      · rw [e1, Int.one_mul] at h2; omega
      · rw [e1] at h2
        rw [show g * (-1 * s) = -(g * s) by grind] at h2
        omega
    · rcases hσ with rfl | rfl <;> omega
    · rcases hσ with rfl | rfl
      · rw [e1, Int.one_mul] at h2; omega
      · rw [e1] at h2
        rw [show g * (-1 * s) = -(g * s) by grind] at h2
        omega
  obtain ⟨A, hA, eA, egs⟩ := hA
  clear e2 e3 eF
  by_cases c3 : x.length = 3
  · rw [ovr_step (by simp [c3]), ovr_stop (by have := stpP_lt (p := x) (o := [o0, o1, o2]) (by simp) (by simp [c3]); simp at this ⊢; omega)]
    have hz := stpP_lt (p := x) (o := [o0, o1, o2]) (by simp) (by simp [c3])
    have el : lst x = b * s - a * σ * o1 := by rw [← X2]; unfold lst; rw [c3]
    have Z0 : (stpP x [o0, o1, o2]).getD 0 0 = d * s * s - (b * s - a * σ * o1) * σ * o0 := by rw [stpP_gd (by simp [c3]), es, en, el, X0]; simp [c3]
    have Z1 : (stpP x [o0, o1, o2]).getD 1 0 = (c * s - a * σ * o0) * s - (b * s - a * σ * o1) * σ * o1 := by rw [stpP_gd (by simp [c3]), es, en, el, X1]; simp [c3]
    have W0 : (stpQ x [o0, o1, o2] y).getD 0 0 = (b * s - a * σ * o1) * σ := by rw [stpQ_gd (by simp [c3, hy]), es, en, el, Y0]; simp [c3]
    have W1 : (stpQ x [o0, o1, o2] y).getD 1 0 = a * σ * s := by rw [stpQ_gd (by simp [c3, hy]), es, en, el, Y1]; simp [c3]
    dsimp only
    refine ⟨Pro_2 (m := g * g) (k := 1) (by omega) (Int.mul_pos hg hg) (by decide) ?_ ?_, Pro_2 (m := g) (k := 1) (by rw [stpQ_len]; omega) hg (by decide) ?_ ?_⟩
    · rw [Z0]; rcases hσ with rfl | rfl <;> grind
    · rw [Z1]; rcases hσ with rfl | rfl <;> grind
    · rw [W0]; rcases hσ with rfl | rfl <;> grind
    · rw [W1]; rcases hσ with rfl | rfl <;> grind
  · rw [ovr_stop (by simp; omega)]
    have z2 : b * s - a * σ * o1 = 0 := by rw [← X2]; exact getD_big (by omega)
    have hb : b = 0 := by
      have : A * b = 0 := by rcases hσ with rfl | rfl <;> grind
      rcases Int.mul_eq_zero.1 this with h | h
      · omega
      · exact h
    subst hb
    dsimp only
    refine ⟨Pro_2 (m := 3 * A * g) (k := 1) (by omega) (Int.mul_pos (by omega) hg) (by decide) ?_ ?_, Pro_2 (m := 3 * A) (k := 1) (by omega) (by omega) (by decide) ?_ ?_⟩
    · rw [X0]; rcases hσ with rfl | rfl <;> grind
    · rw [X1]; rcases hσ with rfl | rfl <;> grind
    · rw [Y0]; simp
    · rw [Y1]; rcases hσ with rfl | rfl <;> grind
theorem ov32 {p0 p1 p2 r0 r1 : Int} (hp : p2 ≠ 0) (hr : r1 ≠ 0) :
    Pro (ovF [p0, p1, p2] [r0, r1]).2 [r1 * r1 * p0 - r0 * r1 * p1 + r0 * r0 * p2] ∧ Pro (ovF [p0, p1, p2] [r0, r1]).1 [r1 * p1 - r0 * p2, r1 * p2] := by
  obtain ⟨σ, s, hσ, hs, e1, e2, e3⟩ := sg_split hr
  have es : sz [r0, r1] = s := e3
  have en : ∀ p : List Int, lead p [r0, r1] = lst p * σ := fun p => by rw [← e2]; rfl
  have eF : ovF [p0, p1, p2] [r0, r1] = ovr 2 (stpP [p0, p1, p2] [r0, r1]) [r0, r1] (stpQ [p0, p1, p2] [r0, r1] [0, 0]) := by
    show ovr 3 _ _ [0, 0] = _
    rw [ovr_step (by simp)]
  have hx := stpP_lt (p := [p0, p1, p2]) (o := [r0, r1]) (by simp) (by simp)
  have X0 : (stpP [p0, p1, p2] [r0, r1]).getD 0 0 = p0 * s := by rw [stpP_gd (by simp), es]; simp
  have X1 : (stpP [p0, p1, p2] [r0, r1]).getD 1 0 = p1 * s - p2 * σ * r0 := by rw [stpP_gd (by simp), es, en]; simp [lst]
  have Y0 : (stpQ [p0, p1, p2] [r0, r1] [0, 0]).getD 0 0 = 0 := by rw [stpQ_gd (by simp), es, en]; simp [lst]
  have Y1 : (stpQ [p0, p1, p2] [r0, r1] [0, 0]).getD 1 0 = p2 * σ := by rw [stpQ_gd (by simp), es, en]; simp [lst]
  have hy : (stpQ [p0, p1, p2] [r0, r1] [0, 0]).length = 2 := by rw [stpQ_len]; rfl
  rw [eF]
  generalize stpP [p0, p1, p2] [r0, r1] = x at *
  generalize stpQ [p0, p1, p2] [r0, r1] [0, 0] = y at *
  have hx : x.length < 3 := hx
  clear e2 e3 eF
  by_cases c3 : x.length = 2
  · rw [ovr_step (by simp [c3]), ovr_stop (by have := stpP_lt (p := x) (o := [r0, r1]) (by simp) (by simp [c3]); simp at this ⊢; omega)]
    have hz := stpP_lt (p := x) (o := [r0, r1]) (by simp) (by simp [c3])
    have el : lst x = p1 * s - p2 * σ * r0 := by rw [← X1]; unfold lst; rw [c3]
    have Z0 : (stpP x [r0, r1]).getD 0 0 = p0 * s * s - (p1 * s - p2 * σ * r0) * σ * r0 := by rw [stpP_gd (by simp [c3]), es, en, el, X0]; simp [c3]
    have W0 : (stpQ x [r0, r1] y).getD 0 0 = (p1 * s - p2 * σ * r0) * σ := by rw [stpQ_gd (by simp [c3, hy]), es, en, el, Y0]; simp [c3]
    have W1 : (stpQ x [r0, r1] y).getD 1 0 = p2 * σ * s := by rw [stpQ_gd (by simp [c3, hy]), es, en, el, Y1]; simp [c3]
    dsimp only
    refine ⟨Pro_1 (m := 1) (k := 1) (by omega) (by decide) (by decide) ?_, Pro_2 (m := 1) (k := 1) (by rw [stpQ_len]; omega) (by decide) (by decide) ?_ ?_⟩
    · rw [Z0]; rcases hσ with rfl | rfl <;> grind
    · rw [W0]; rcases hσ with rfl | rfl <;> grind
    · rw [W1]; rcases hσ with rfl | rfl <;> grind
  · rw [ovr_stop (by simp; omega)]
    have z2 : p1 * s - p2 * σ * r0 = 0 := by rw [← X1]; exact getD_big (by omega)
    dsimp only
    refine ⟨Pro_1 (m := s) (k := 1) (by omega) hs (by decide) ?_, Pro_2 (m := s) (k := 1) (by omega) hs (by decide) ?_ ?_⟩
    · rw [X0]; rcases hσ with rfl | rfl <;> grind
    · rw [Y0]; rcases hσ with rfl | rfl <;> grind
    · rw [Y1]; rcases hσ with rfl | rfl <;> grind
end Go.Proofs.Ytkmompbfcgjgmaa.nt
namespace Go.Proofs.Ytkmompbfcgjgmaa.nt
open Go.GE
set_option linter.unusedVariables false
set_option linter.unusedSimpArgs false
set_option linter.unusedSectionVars false
set_option maxRecDepth 100000
set_option maxHeartbeats 4000000
theorem mul3_zero {s z : Int} (hs : 0 < s) (h : s * z = 0) : z = 0 := by
  rcases Int.mul_eq_zero.1 h with h | h
  · omega
  · exact h
/-- a division that leaves nothing -/
theorem ov42 {q0 q1 q2 r0 r1 : Int} (hq : q2 ≠ 0) (hr : r1 ≠ 0) :
    Pro (ovF [r0 * q0, r1 * q0 + r0 * q1, r1 * q1 + r0 * q2, r1 * q2] [r0, r1]).1 [q0, q1, q2] := by
  obtain ⟨σ, s, hσ, hs, e1, e2, e3⟩ := sg_split hr
  have es : sz [r0, r1] = s := e3
  have en : ∀ p : List Int, lead p [r0, r1] = lst p * σ := fun p => by rw [← e2]; rfl
  have eF : ∀ a b c d, ovF [a, b, c, d] [r0, r1] = ovr 3 (stpP [a, b, c, d] [r0, r1]) [r0, r1] (stpQ [a, b, c, d] [r0, r1] [0, 0, 0]) := by
    intro a b c d
    show ovr 4 _ _ [0, 0, 0] = _
    rw [ovr_step (by simp)]
  rw [eF]
  have hx := fun a b c d => stpP_lt (p := [a, b, c, d]) (o := [r0, r1]) (by simp) (by simp)
  have X1 : ∀ a b c d, (stpP [a, b, c, d] [r0, r1]).getD 1 0 = b * s := by intro a b c d; rw [stpP_gd (by simp), es]; simp
  have X2 : ∀ a b c d, (stpP [a, b, c, d] [r0, r1]).getD 2 0 = c * s - d * σ * r0 := by intro a b c d; rw [stpP_gd (by simp), es, en]; simp [lst]
  have Y0 : ∀ a b c d, (stpQ [a, b, c, d] [r0, r1] [0, 0, 0]).getD 0 0 = 0 := by intro a b c d; rw [stpQ_gd (by simp), es, en]; simp [lst]
  have Y1 : ∀ a b c d, (stpQ [a, b, c, d] [r0, r1] [0, 0, 0]).getD 1 0 = 0 := by intro a b c d; rw [stpQ_gd (by simp), es, en]; simp [lst]
  have Y2 : ∀ a b c d, (stpQ [a, b, c, d] [r0, r1] [0, 0, 0]).getD 2 0 = d * σ := by intro a b c d; rw [stpQ_gd (by simp), es, en]; simp [lst]
  have hy : ∀ a b c d, (stpQ [a, b, c, d] [r0, r1] [0, 0, 0]).length = 3 := by intro a b c d; rw [stpQ_len]; rfl
  replace hx := hx (r0 * q0) (r1 * q0 + r0 * q1) (r1 * q1 + r0 * q2) (r1 * q2)
  replace X1 := X1 (r0 * q0) (r1 * q0 + r0 * q1) (r1 * q1 + r0 * q2) (r1 * q2)
  replace X2 := X2 (r0 * q0) (r1 * q0 + r0 * q1) (r1 * q1 + r0 * q2) (r1 * q2)
  replace Y0 := Y0 (r0 * q0) (r1 * q0 + r0 * q1) (r1 * q1 + r0 * q2) (r1 * q2)
  replace Y1 := Y1 (r0 * q0) (r1 * q0 + r0 * q1) (r1 * q1 + r0 * q2) (r1 * q2)
  replace Y2 := Y2 (r0 * q0) (r1 * q0 + r0 * q1) (r1 * q1 + r0 * q2) (r1 * q2)
  replace hy := hy (r0 * q0) (r1 * q0 + r0 * q1) (r1 * q1 + r0 * q2) (r1 * q2)
  generalize stpP [r0 * q0, r1 * q0 + r0 * q1, r1 * q1 + r0 * q2, r1 * q2] [r0, r1] = x at *
  generalize stpQ [r0 * q0, r1 * q0 + r0 * q1, r1 * q1 + r0 * q2, r1 * q2] [r0, r1] [0, 0, 0] = y at *
  have hx : x.length < 4 := hx
  clear e2 e3 eF
  have X2 : x.getD 2 0 = σ * (s * s * q1) := by rw [X2]; rcases hσ with rfl | rfl <;> grind
  have Y2 : y.getD 2 0 = s * q2 := by rw [Y2]; rcases hσ with rfl | rfl <;> grind
  have hss : 0 < s * s := Int.mul_pos hs hs
  have hz0 : ∀ z : Int, σ * z = 0 → z = 0 := fun z h => by rcases hσ with rfl | rfl <;> omega
  by_cases c3 : x.length = 3
  · rw [ovr_step (by simp [c3])]
    have el : lst x = σ * (s * s * q1) := by rw [← X2]; unfold lst; rw [c3]
    have hx2 := stpP_lt (p := x) (o := [r0, r1]) (by simp) (by simp [c3])
    have V1 : (stpP x [r0, r1]).getD 1 0 = σ * (s * s * s * q0) := by rw [stpP_gd (by simp [c3]), es, en, el, X1]; simp [c3]; rcases hσ with rfl | rfl <;> grind
    have W0 : (stpQ x [r0, r1] y).getD 0 0 = 0 := by rw [stpQ_gd (by simp [c3, hy]), es, en, el, Y0]; simp [c3]
    have W1 : (stpQ x [r0, r1] y).getD 1 0 = s * s * q1 := by rw [stpQ_gd (by simp [c3, hy]), es, en, el, Y1]; simp [c3]; rcases hσ with rfl | rfl <;> grind
    have W2 : (stpQ x [r0, r1] y).getD 2 0 = s * s * q2 := by rw [stpQ_gd (by simp [c3, hy]), es, en, el, Y2]; simp [c3]; grind
    have hw : (stpQ x [r0, r1] y).length = 3 := by rw [stpQ_len]; exact hy
    generalize stpP x [r0, r1] = v at *
    generalize stpQ x [r0, r1] y = w at *
    by_cases c2 : v.length = 2
    · rw [ovr_step (by simp [c2]), ovr_stop (by have := stpP_lt (p := v) (o := [r0, r1]) (by simp) (by simp [c2]); simp at this ⊢; omega)]
      have el : lst v = σ * (s * s * s * q0) := by rw [← V1]; unfold lst; rw [c2]
      have U0 : (stpQ v [r0, r1] w).getD 0 0 = s * s * s * q0 := by rw [stpQ_gd (by simp [c2, hw]), es, en, el, W0]; simp [c2]; rcases hσ with rfl | rfl <;> grind
      have U1 : (stpQ v [r0, r1] w).getD 1 0 = s * s * s * q1 := by rw [stpQ_gd (by simp [c2, hw]), es, en, el, W1]; simp [c2]; grind
      have U2 : (stpQ v [r0, r1] w).getD 2 0 = s * s * s * q2 := by rw [stpQ_gd (by simp [c2, hw]), es, en, el, W2]; simp [c2]; grind
      dsimp only
      refine Pro_3 (m := 1) (k := s * s * s) (by rw [stpQ_len]; omega) (by decide) (Int.mul_pos hss hs) ?_ ?_ ?_
      · rw [U0]; grind
      · rw [U1]; grind
      · rw [U2]; grind
    · rw [ovr_stop (by simp; omega)]
      dsimp only
      have h0 := hz0 _ (V1.symm.trans (getD_big (by omega)))
      have h0 := mul3_zero (Int.mul_pos hss hs) h0
      subst h0
      refine Pro_3 (m := 1) (k := s * s) (by omega) (by decide) hss ?_ ?_ ?_
      · rw [W0]; simp
      · rw [W1]; grind
      · rw [W2]; grind
  · have h0 := hz0 _ (X2.symm.trans (getD_big (by omega)))
    have h0 := mul3_zero hss h0
    subst h0
    by_cases c2 : x.length = 2
    · rw [ovr_step (by simp [c2]), ovr_stop (by have := stpP_lt (p := x) (o := [r0, r1]) (by simp) (by simp [c2]); simp at this ⊢; omega)]
      dsimp only
      have el : lst x = (r1 * q0 + r0 * 0) * s := by rw [← X1]; unfold lst; rw [c2]
      have W0 : (stpQ x [r0, r1] y).getD 0 0 = s * s * q0 := by rw [stpQ_gd (by simp [c2, hy]), es, en, el, Y0]; simp [c2]; rcases hσ with rfl | rfl <;> grind
      have W1 : (stpQ x [r0, r1] y).getD 1 0 = 0 := by rw [stpQ_gd (by simp [c2, hy]), es, en, el, Y1]; simp [c2]
      have W2 : (stpQ x [r0, r1] y).getD 2 0 = s * s * q2 := by rw [stpQ_gd (by simp [c2, hy]), es, en, el, Y2]; simp [c2]; grind
      refine Pro_3 (m := 1) (k := s * s) (by rw [stpQ_len]; omega) (by decide) hss ?_ ?_ ?_
      · rw [W0]; grind
      · rw [W1]; simp
      · rw [W2]; grind
    · rw [ovr_stop (by simp; omega)]
      dsimp only
      have h0 := X1.symm.trans (getD_big (by omega))
      have h0 : q0 = 0 := by
        have : σ * (s * s * q0) = 0 := by rw [← h0]; grind
        exact mul3_zero hss (hz0 _ this)
      subst h0
      refine Pro_3 (m := 1) (k := s) (by omega) (by decide) hs ?_ ?_ ?_
      · rw [Y0]; simp
      · rw [Y1]; simp
      · rw [Y2]; grind
/-- a division by a constant -/
theorem ov_1r {e : Int} (he : e ≠ 0) : ∀ (f : Nat) (p q : List Int), p.length ≤ f → p.length ≤ q.length → (ovr f p [e] q).2 = [] ∧ (ovr f p [e] q).1.length = q.length ∧ ∃ l : Int, 0 < l ∧ ∀ i, l * (e * q.getD i 0 + p.getD i 0) = e * (ovr f p [e] q).1.getD i 0 := by
  obtain ⟨σ, s, hσ, hs, e1, e2, e3⟩ := sg_split he
  have es : sz [e] = s := e3
  have en : ∀ p : List Int, lead p [e] = lst p * σ := fun p => by rw [← e2]; rfl
  intro f
  induction f with
  | zero =>
    intro p q hf hl
    obtain rfl : p = [] := List.length_eq_zero_iff.1 (by omega)
    exact ⟨rfl, rfl, 1, by decide, fun i => by simp [ovr]⟩
  | succ f ih =>
    intro p q hf hl
    by_cases c : p.length = 0
    · obtain rfl : p = [] := List.length_eq_zero_iff.1 c
      rw [ovr_stop (by simp)]
      exact ⟨rfl, rfl, 1, by decide, fun i => by simp⟩
    · have hle : [e].length ≤ p.length := by simp; omega
      rw [ovr_step hle]
      have hlt := stpP_lt (p := p) (o := [e]) (by simp) hle
      obtain ⟨i1, i2, l, hl0, i3⟩ := ih (stpP p [e]) (stpQ p [e] q) (by omega) (by rw [stpQ_len]; omega)
      refine ⟨i1, by rw [i2, stpQ_len], l * s, Int.mul_pos hl0 hs, fun i => ?_⟩
      rw [← i3 i, stpP_gd hle, stpQ_gd (by simp; omega), es, en]
      by_cases c1 : p.length - [e].length ≤ i
      · rw [if_pos c1]
        by_cases c2 : i = p.length - [e].length
        · rw [if_pos c2, c2, Nat.sub_self]
          have : p.getD (p.length - [e].length) 0 = lst p := rfl
          rw [this]
          show _ = l * (e * (q.getD (p.length - [e].length) 0 * s + lst p * σ) + (lst p * s - lst p * σ * e))
          rcases hσ with rfl | rfl <;> grind
        · rw [if_neg c2, getD_big (L := [e]) (by simp at c1 c2 ⊢; omega)]
          grind
      · rw [if_neg c1, if_neg (by omega)]
        grind
theorem ov_1 {e : Int} (he : e ≠ 0) {p : List Int} (h0 : 0 < p.length) : (ovF p [e]).2 = [] ∧ Pro (ovF p [e]).1 (tms p (sg e)) := by
  obtain ⟨h1, h2, l, hl, h3⟩ := ov_1r he p.length p (List.replicate (p.length - [e].length + 1) 0) (Nat.le_refl _) (by simp; omega)
  refine ⟨h1, ?_⟩
  obtain ⟨σ, s, hσ, hs, e1, e2, e3⟩ := sg_split he
  refine Pro_int (m := s) (k := l) hs hl fun i => ?_
  have h := h3 i
  have z : (List.replicate (p.length - [e].length + 1) (0 : Int)).getD i 0 = 0 := by
    rw [List.getD_eq_getElem?_getD, List.getElem?_replicate]; split <;> rfl
  rw [z] at h
  show (ovr p.length p [e] (List.replicate (p.length - [e].length + 1) 0)).1.getD i 0 * s = _
  rw [tms_gd, e2]
  generalize (ovr p.length p [e] (List.replicate (p.length - [e].length + 1) 0)).1.getD i 0 = Z at *
  generalize p.getD i 0 = pi at *
  rcases hσ with rfl | rfl <;> grind
end Go.Proofs.Ytkmompbfcgjgmaa.nt
namespace Go.Proofs.Ytkmompbfcgjgmaa.nt
open Go.GE
set_option linter.unusedVariables false
set_option linter.unusedSimpArgs false
set_option linter.unusedSectionVars false
set_option maxRecDepth 100000
set_option maxHeartbeats 4000000
theorem lea_len_of {p : List Int} (h : p.getD (p.length - 1) 0 ≠ 0) : (lea p).length = p.length := by
  rw [lea_len]
  refine lea_last ?_ h
  rcases Nat.eq_zero_or_pos p.length with e | e
  · exact absurd (getD_big (by omega)) h
  · exact e
theorem lea_gc {p : List Int} {j : Nat} (h : p.getD j 0 ≠ 0) : gcP (lea p) = 1 := by
  have hp := gcP_ne h
  have a := lea_mul (p := p) j
  have b := lea_mul (p := lea p) j
  rw [lea_lea] at b
  have c : (lea p).getD j 0 ≠ 0 := by intro e; rw [e] at a; simp at a; exact h a.symm
  have : ((gcP (lea p) : Int) - 1) * (lea p).getD j 0 = 0 := by grind
  rcases Int.mul_eq_zero.1 this with h | h
  · omega
  · exact absurd h c
theorem lea_two {u v : Int} (hv : v ≠ 0) : ∃ r0 r1 g : Int, lea [u, v] = [r0, r1] ∧ 0 < g ∧ g * r0 = u ∧ g * r1 = v ∧ r1 ≠ 0 ∧ Int.gcd r0 r1 = 1 := by
  have hl : (lea [u, v]).length = 2 := lea_len_of (p := [u, v]) hv
  have h0 := lea_mul (p := [u, v]) 0
  have h1 := lea_mul (p := [u, v]) 1
  have hg := gcP_ne (p := [u, v]) (j := 1) hv
  have hc := lea_gc (p := [u, v]) (j := 1) hv
  match e : lea [u, v], hl with
  | [r0, r1], _ =>
    rw [e] at h0 h1 hc
    have h0 : (gcP [u, v] : Int) * r0 = u := h0
    have h1 : (gcP [u, v] : Int) * r1 = v := h1
    refine ⟨r0, r1, gcP [u, v], rfl, by omega, h0, h1, ?_, ?_⟩
    · intro e; rw [e] at h1; simp at h1; exact hv h1.symm
    · have : Int.gcd r0 r1 ∣ gcP [r0, r1] := gcP_max fun j => by
        rcases j with _ | _ | j
        · exact Int.gcd_dvd_left ..
        · exact Int.gcd_dvd_right ..
        · rw [getD_big (by simp)]; exact Int.dvd_zero _
      rw [hc] at this
      exact Nat.dvd_one.1 this
theorem lea_three {u v w : Int} (hw : w ≠ 0) : ∃ r0 r1 r2 g : Int, lea [u, v, w] = [r0, r1, r2] ∧ 0 < g ∧ g * r0 = u ∧ g * r1 = v ∧ g * r2 = w ∧ r2 ≠ 0 := by
  have hl : (lea [u, v, w]).length = 3 := lea_len_of (p := [u, v, w]) hw
  have h0 := lea_mul (p := [u, v, w]) 0
  have h1 := lea_mul (p := [u, v, w]) 1
  have h2 := lea_mul (p := [u, v, w]) 2
  have hg := gcP_ne (p := [u, v, w]) (j := 2) hw
  match e : lea [u, v, w], hl with
  | [r0, r1, r2], _ =>
    rw [e] at h0 h1 h2
    have h2 : (gcP [u, v, w] : Int) * r2 = w := h2
    exact ⟨r0, r1, r2, gcP [u, v, w], rfl, by omega, h0, h1, h2, by intro e; rw [e] at h2; simp at h2; exact hw h2.symm⟩
theorem lea_four {u v w z : Int} (hw : z ≠ 0) : ∃ r0 r1 r2 r3 g : Int, lea [u, v, w, z] = [r0, r1, r2, r3] ∧ 0 < g ∧ g * r0 = u ∧ g * r1 = v ∧ g * r2 = w ∧ g * r3 = z ∧ r3 ≠ 0 := by
  have hl : (lea [u, v, w, z]).length = 4 := lea_len_of (p := [u, v, w, z]) hw
  have h0 := lea_mul (p := [u, v, w, z]) 0
  have h1 := lea_mul (p := [u, v, w, z]) 1
  have h2 := lea_mul (p := [u, v, w, z]) 2
  have h3 := lea_mul (p := [u, v, w, z]) 3
  have hg := gcP_ne (p := [u, v, w, z]) (j := 3) hw
  match e : lea [u, v, w, z], hl with
  | [r0, r1, r2, r3], _ =>
    rw [e] at h0 h1 h2 h3
    have h3 : (gcP [u, v, w, z] : Int) * r3 = z := h3
    exact ⟨r0, r1, r2, r3, gcP [u, v, w, z], rfl, by omega, h0, h1, h2, h3, by intro e; rw [e] at h3; simp at h3; exact hw h3.symm⟩
theorem lea_one {x : Int} (h : x ≠ 0) : lea [x] = [sg x] := by
  obtain ⟨σ, s, hσ, hs, e1, e2, e3⟩ := sg_split h
  have : Pro [x] [σ] := Pro_1 (m := 1) (k := s) (by simp) (by decide) hs (by show x * 1 = _; omega)
  rw [this.lea, e2]
  rcases hσ with rfl | rfl <;> rfl
theorem sg_pm {x : Int} (h : x ≠ 0) : sg x = 1 ∨ sg x = -1 := by
  obtain ⟨σ, s, hσ, hs, e1, e2, e3⟩ := sg_split h
  rw [e2]; exact hσ
theorem BdL.lea {M : Nat} {p : List Int} (h : BdL M p) : BdL M (lea p) := fun i => by
  rw [lea_gd, Int.natAbs_tdiv]
  exact Nat.le_trans (Nat.div_le_self _ _) (h i)
theorem BdL.neg {M : Nat} {p : List Int} {m : Int} (h : BdL M p) (hm : m = 1 ∨ m = -1) : BdL M (nt.tms p m) := fun i => by
  rw [tms_gd, Int.natAbs_mul]
  have := h i
  rcases hm with rfl | rfl
  · rw [show (1 : Int).natAbs = 1 from rfl]; omega
  · rw [show (-1 : Int).natAbs = 1 from rfl]; omega
theorem BdL_1 {M : Nat} {x : Int} (hx : x.natAbs ≤ M) : BdL M [x] := fun i => by
  rcases i with _ | i
  · exact hx
  · rw [getD_big (by simp)]; exact Nat.zero_le _
theorem BdL_2 {M : Nat} {x y : Int} (hx : x.natAbs ≤ M) (hy : y.natAbs ≤ M) : BdL M [x, y] := fun i => by
  rcases i with _ | _ | i
  · exact hx
  · exact hy
  · rw [getD_big (by simp)]; exact Nat.zero_le _
theorem BdL_3 {M : Nat} {x y z : Int} (hx : x.natAbs ≤ M) (hy : y.natAbs ≤ M) (hz : z.natAbs ≤ M) : BdL M [x, y, z] := fun i => by
  rcases i with _ | _ | _ | i
  · exact hx
  · exact hy
  · exact hz
  · rw [getD_big (by simp)]; exact Nat.zero_le _
theorem mulAB {x y : Int} {A B : Nat} (hx : x.natAbs ≤ A) (hy : y.natAbs ≤ B) : (x * y).natAbs ≤ A * B := by rw [Int.natAbs_mul]; exact Nat.mul_le_mul hx hy
theorem slp2 {b a : Int} : slp [b, a] = [a] := by simp [slp]
theorem slp3 {c b a : Int} : slp [c, b, a] = [b, 2 * a] := by
  show [b * (0 + 1), a * (1 + 1)] = _
  rw [show b * (0 + 1) = b by omega, show a * (1 + 1) = 2 * a by omega]
theorem slp4 {d c b a : Int} : slp [d, c, b, a] = [c, 2 * b, 3 * a] := by
  show [c * (0 + 1), b * (1 + 1), a * (2 + 1)] = _
  rw [show c * (0 + 1) = c by omega, show b * (1 + 1) = 2 * b by omega, show a * (2 + 1) = 3 * a by omega]
/-- what stuB asks of a core -/
def chO (C : List Int) : Bool :=
  Nat.ble 2 C.length && Nat.ble C.length 60 && allB (slp C) && (bif Nat.beq (lea (slp C)).length 1 then true else
  nxtB C (lea (slp C)) && (bif Nat.beq (nxt C (lea (slp C))).length 1 then true else nxtB (lea (slp C)) (nxt C (lea (slp C))) && Nat.beq (nxt (lea (slp C)) (nxt C (lea (slp C)))).length 1))
theorem stuB_of {p : List Int} (h1 : corB p = true) (h2 : chO (cor p) = true) : stuB p = true := by
  unfold chO at h2
  simp only [Bool.and_eq_true] at h2
  obtain ⟨⟨⟨a1, a2⟩, a3⟩, a4⟩ := h2
  unfold stuB
  simp only [h1, a1, a2, a3, a4, Bool.and_true]
theorem nxt_of {p o R : List Int} (h : Pro (ovF p o).2 R) : nxt p o = tms (lea R) (-1) := by unfold nxt; rw [h.lea]
theorem nxtB_of {p o : List Int} {M : Nat} (h1 : 2 ≤ o.length) (h2 : o.length ≤ p.length) (h3 : p.length ≤ 60) (hv : ovB p o = true) (hb : BdL M (nxt p o)) (hM : M ≤ 4611686018427387904) (hn : 1 ≤ (nxt p o).length) : nxtB p o = true := by
  unfold nxtB
  rw [Nat.ble_eq_true_of_le h1, Nat.ble_eq_true_of_le h2, Nat.ble_eq_true_of_le h3, hv, hb.all hM, Nat.ble_eq_true_of_le hn]
  rfl
theorem ch2 {b a : Int} (ha : a ≠ 0) (h : BdL 700 [b, a]) : chO [b, a] = true := by
  unfold chO
  have e : allB [a] = true := (BdL_1 (M := 700) (show a.natAbs ≤ 700 from h 1)).all (by decide)
  rw [slp2, lea_one ha, e]
  rfl
/-- the chain of a polynomial with three coefficients -/
theorem nx3 {c b a : Int} (ha : a ≠ 0) (hd : 4 * a * c - b * b ≠ 0) : ∃ o0 o1 g : Int, lea (slp [c, b, a]) = [o0, o1] ∧ 0 < g ∧ g * o0 = b ∧ g * o1 = 2 * a ∧ nxt [c, b, a] [o0, o1] = [-(sg (a * (4 * a * c - b * b)))] := by
  rw [slp3]
  obtain ⟨o0, o1, g, e, hg, h0, h1, h2, _⟩ := lea_two (u := b) (v := 2 * a) (by omega)
  refine ⟨o0, o1, g, e, hg, h0, h1, ?_⟩
  obtain ⟨p1, _⟩ := ov32 (p0 := c) (p1 := b) (r0 := o0) ha h2
  have hP : Pro (ovF [c, b, a] [o0, o1]).2 [a * (4 * a * c - b * b)] := p1.trans (Pro_1 (m := g * g) (k := 1) (by simp) (Int.mul_pos hg hg) (by decide) (by
    show (o1 * o1 * c - o0 * o1 * b + o0 * o0 * a) * (g * g) = _
    grind))
  rw [nxt_of hP, lea_one (by intro e; rcases Int.mul_eq_zero.1 e with e | e; exact ha e; exact hd e)]
  show [sg _ * -1] = _
  congr 1
  omega
theorem ch3 {c b a : Int} (ha : a ≠ 0) (h : BdL 700 [c, b, a]) (hd : 4 * a * c - b * b ≠ 0) : chO [c, b, a] = true := by
  obtain ⟨o0, o1, g, e, hg, h0, h1, hn⟩ := nx3 ha hd
  have h700 : (2 * a).natAbs ≤ 1400 := by have := h 2; have : a.natAbs ≤ 700 := this; omega
  have hb : b.natAbs ≤ 1400 := by have := h 1; have : b.natAbs ≤ 700 := this; omega
  have hs : BdL 1400 (slp [c, b, a]) := by rw [slp3]; exact BdL_2 hb h700
  have ho : BdL 1400 [o0, o1] := by rw [← e]; exact hs.lea
  unfold chO
  rw [hs.all (by decide), e, hn]
  have hv : nxtB [c, b, a] [o0, o1] = true := nxtB_of (M := 1) (by simp) (by simp) (by simp) (ovB_of (A := 700) (B := 1400) h ho (by decide) (by decide) (by simp) (by decide) (by simp)) (by rw [hn]; exact BdL_1 (by rw [Int.natAbs_neg]; exact sg_abs)) (by decide) (by rw [hn]; simp)
  rw [hv]
  rfl
/-- what follows in the chain of a polynomial with four coefficients -/
theorem nx4 {d c b a : Int} (ha : 0 < a) : ∃ o0 o1 o2 g : Int, lea (slp [d, c, b, a]) = [o0, o1, o2] ∧ 0 < g ∧ g * o0 = c ∧ g * o1 = 2 * b ∧ g * o2 = 3 * a ∧ o2 ≠ 0 ∧ nxt [d, c, b, a] [o0, o1, o2] = tms (lea [9 * a * d - b * c, 6 * a * c - 2 * b * b]) (-1) := by
  rw [slp4]
  obtain ⟨o0, o1, o2, g, e, hg, h0, h1, h2, h3⟩ := lea_three (u := c) (v := 2 * b) (w := 3 * a) (by omega)
  refine ⟨o0, o1, o2, g, e, hg, h0, h1, h2, h3, ?_⟩
  obtain ⟨p1, _⟩ := ov43 (d := d) (c := c) (b := b) (a := a) (by omega) hg h0 h1 h2
  refine nxt_of (p1.trans (Pro_2 (m := 1) (k := a) (by simp) (by decide) ha ?_ ?_))
  · show a * _ * 1 = _; grind
  · show a * _ * 1 = _; grind
def dis (d c b a : Int) : Int := (6 * a * c - 2 * b * b) * (6 * a * c - 2 * b * b) * c - 2 * b * (9 * a * d - b * c) * (6 * a * c - 2 * b * b) + 3 * a * (9 * a * d - b * c) * (9 * a * d - b * c)
theorem uv_bd {d c b a : Int} (h : BdL 50 [d, c, b, a]) : BdL 25000 [9 * a * d - b * c, 6 * a * c - 2 * b * b] := by
  have hd : d.natAbs ≤ 50 := h 0
  have hc : c.natAbs ≤ 50 := h 1
  have hb : b.natAbs ≤ 50 := h 2
  have ha : a.natAbs ≤ 50 := h 3
  have m1 := mulAB ha hd
  have m2 := mulAB hb hc
  have m3 := mulAB ha hc
  have m4 := mulAB hb hb
  rw [show 9 * a * d = 9 * (a * d) by grind, show 6 * a * c = 6 * (a * c) by grind, show 2 * b * b = 2 * (b * b) by grind]
  refine BdL_2 ?_ ?_ <;> omega
theorem ch4 {d c b a : Int} (ha : 0 < a) (h : BdL 50 [d, c, b, a]) (hS : (6 * a * c - 2 * b * b ≠ 0 ∧ dis d c b a ≠ 0) ∨ (6 * a * c - 2 * b * b = 0 ∧ 9 * a * d - b * c ≠ 0)) : chO [d, c, b, a] = true := by
  obtain ⟨o0, o1, o2, g, e, hg, h0, h1, h2, h3, hn⟩ := nx4 (d := d) (c := c) (b := b) ha
  have hc : c.natAbs ≤ 50 := h 1
  have hb : b.natAbs ≤ 50 := h 2
  have ha' : a.natAbs ≤ 50 := h 3
  have hs : BdL 150 (slp [d, c, b, a]) := by rw [slp4]; exact BdL_3 (by omega) (by omega) (by omega)
  have ho : BdL 150 [o0, o1, o2] := by rw [← e]; exact hs.lea
  have huv := uv_bd h
  have hr : BdL 25000 (nxt [d, c, b, a] [o0, o1, o2]) := by rw [hn]; exact huv.lea.neg (.inr rfl)
  unfold chO
  rw [hs.all (by decide), e]
  rcases hS with ⟨hv, hD⟩ | ⟨hv, hu⟩
  · obtain ⟨x0, x1, m, ex, hm, g0, g1, g2, _⟩ := lea_two (u := 9 * a * d - b * c) hv
    rw [ex] at hn
    have hn : nxt [d, c, b, a] [o0, o1, o2] = [x0 * -1, x1 * -1] := hn
    rw [hn] at hr
    have hB1 : nxtB [d, c, b, a] [o0, o1, o2] = true := nxtB_of (M := 25000) (by simp) (by simp) (by simp) (ovB_of (A := 50) (B := 150) h ho (by decide) (by decide) (by simp) (by decide) (by simp)) (by rw [hn]; exact hr) (by decide) (by rw [hn]; simp)
    obtain ⟨p1, _⟩ := ov32 (p0 := o0) (p1 := o1) (r0 := x0 * -1) (r1 := x1 * -1) h3 (by omega)
    have hP : Pro (ovF [o0, o1, o2] [x0 * -1, x1 * -1]).2 [dis d c b a] := p1.trans (Pro_1 (m := g * (m * m)) (k := 1) (by simp) (Int.mul_pos hg (Int.mul_pos hm hm)) (by decide) (by
      show (x1 * -1 * (x1 * -1) * o0 - x0 * -1 * (x1 * -1) * o1 + x0 * -1 * (x0 * -1) * o2) * (g * (m * m)) = _
      unfold dis
      rw [← g0, ← g1]
      grind))
    have hl := nxt_of hP
    rw [lea_one hD] at hl
    have hl : nxt [o0, o1, o2] [x0 * -1, x1 * -1] = [sg (dis d c b a) * -1] := hl
    have hB2 : nxtB [o0, o1, o2] [x0 * -1, x1 * -1] = true := nxtB_of (M := 1) (by simp) (by simp) (by simp) (ovB_of (A := 150) (B := 25000) ho hr (by decide) (by decide) (by simp) (by decide) (by simp)) (by rw [hl]; exact BdL_1 (by have := sg_abs (z := dis d c b a); omega)) (by decide) (by rw [hl]; simp)
    rw [hn, hB1, hB2, hl]
    rfl
  · have hP : Pro [9 * a * d - b * c, 6 * a * c - 2 * b * b] [9 * a * d - b * c] := by
      rw [hv]
      exact Pro_int (m := 1) (k := 1) (by decide) (by decide) fun i => by
        rcases i with _ | _ | i
        · rfl
        · rfl
        · rw [getD_big (by simp), getD_big (by simp)]
    rw [hP.lea, lea_one hu] at hn
    have hn : nxt [d, c, b, a] [o0, o1, o2] = [sg (9 * a * d - b * c) * -1] := hn
    have hB1 : nxtB [d, c, b, a] [o0, o1, o2] = true := nxtB_of (M := 25000) (by simp) (by simp) (by simp) (ovB_of (A := 50) (B := 150) h ho (by decide) (by decide) (by simp) (by decide) (by simp)) hr (by decide) (by rw [hn]; simp)
    rw [hn, hB1]
    rfl
end Go.Proofs.Ytkmompbfcgjgmaa.nt
namespace Go.Proofs.Ytkmompbfcgjgmaa.nt
open Go.GE
set_option linter.unusedVariables false
set_option linter.unusedSimpArgs false
set_option linter.unusedSectionVars false
set_option maxRecDepth 100000
set_option maxHeartbeats 4000000
/-- lean, with a last coefficient above 0 -/
def cnr (p : List Int) : List Int := tms (lea p) (sg (lst (lea p)))
theorem Pro.cnr {p q : List Int} (h : Pro p q) : cnr p = cnr q := by unfold nt.cnr; rw [h.lea]
theorem cor_cnr {p : List Int} : cor p = cnr (ovF p (corG p)).1 := rfl
theorem tms_tms {p : List Int} {a b : Int} : nt.tms (nt.tms p a) b = nt.tms p (a * b) := by
  unfold nt.tms
  rw [List.length_map, List.length_range]
  refine List.map_congr_left fun i hi => ?_
  have hi := List.mem_range.1 hi
  have := tms_gd (p := p) (m := a) i
  unfold nt.tms at this
  rw [this, Int.mul_assoc]
theorem tms_one {p : List Int} : nt.tms p 1 = p := by
  unfold nt.tms
  simp only [Int.mul_one]
  exact of_range
theorem lst_tms {p : List Int} {a : Int} : lst (nt.tms p a) = lst p * a := by
  unfold nt.lst
  rw [tms_len, tms_gd]
theorem cnr_sg {p : List Int} {σ : Int} (h : σ = 1 ∨ σ = -1) : cnr (nt.tms p σ) = cnr p := by
  rcases h with rfl | rfl
  · rw [tms_one]
  · unfold cnr
    rw [lea_neg, lst_tms, Int.mul_neg_one, show sg (-(lst (nt.lea p))) = -(sg (lst (nt.lea p))) by (unfold sg; split <;> split <;> (try split) <;> omega), tms_tms]
    congr 1
    omega
theorem cnr_two {u v : Int} (hv : v ≠ 0) : ∃ r0 r1 m : Int, cnr [u, v] = [r0, r1] ∧ m ≠ 0 ∧ m * r0 = u ∧ m * r1 = v ∧ 0 < r1 := by
  obtain ⟨r0, r1, g, e, hg, h0, h1, h2, _⟩ := lea_two (u := u) hv
  obtain ⟨σ, s, hσ, hs, e1, e2, e3⟩ := sg_split h2
  refine ⟨r0 * σ, r1 * σ, g * σ, ?_, ?_, ?_, ?_, ?_⟩
  · unfold cnr; rw [e]; show tms [r0, r1] (sg r1) = _; rw [e2]; rfl
  · rcases hσ with rfl | rfl <;> omega
  · rcases hσ with rfl | rfl <;> grind
  · rcases hσ with rfl | rfl <;> grind
  · rcases hσ with rfl | rfl <;> omega
theorem cnr_three {u v w : Int} (hv : w ≠ 0) : ∃ r0 r1 r2 m : Int, cnr [u, v, w] = [r0, r1, r2] ∧ m ≠ 0 ∧ m * r0 = u ∧ m * r1 = v ∧ m * r2 = w ∧ 0 < r2 := by
  obtain ⟨r0, r1, r2, g, e, hg, h0, h1, h3, h2⟩ := lea_three (u := u) (v := v) hv
  obtain ⟨σ, s, hσ, hs, e1, e2, e3⟩ := sg_split h2
  refine ⟨r0 * σ, r1 * σ, r2 * σ, g * σ, ?_, ?_, ?_, ?_, ?_, ?_⟩
  · unfold cnr; rw [e]; show tms [r0, r1, r2] (sg r2) = _; rw [e2]; rfl
  · rcases hσ with rfl | rfl <;> omega
  · rcases hσ with rfl | rfl <;> grind
  · rcases hσ with rfl | rfl <;> grind
  · rcases hσ with rfl | rfl <;> grind
  · rcases hσ with rfl | rfl <;> omega
theorem cnr_four {u v w z : Int} (hv : z ≠ 0) : ∃ r0 r1 r2 r3 m : Int, cnr [u, v, w, z] = [r0, r1, r2, r3] ∧ m ≠ 0 ∧ m * r0 = u ∧ m * r1 = v ∧ m * r2 = w ∧ m * r3 = z ∧ 0 < r3 := by
  obtain ⟨r0, r1, r2, r3, g, e, hg, h0, h1, h3, h4, h2⟩ := lea_four (u := u) (v := v) (w := w) hv
  obtain ⟨σ, s, hσ, hs, e1, e2, e3⟩ := sg_split h2
  refine ⟨r0 * σ, r1 * σ, r2 * σ, r3 * σ, g * σ, ?_, ?_, ?_, ?_, ?_, ?_, ?_⟩
  · unfold cnr; rw [e]; show tms [r0, r1, r2, r3] (sg r3) = _; rw [e2]; rfl
  · rcases hσ with rfl | rfl <;> omega
  · rcases hσ with rfl | rfl <;> grind
  · rcases hσ with rfl | rfl <;> grind
  · rcases hσ with rfl | rfl <;> grind
  · rcases hσ with rfl | rfl <;> grind
  · rcases hσ with rfl | rfl <;> omega
theorem BdL.cnr {M : Nat} {p : List Int} (h : BdL M p) : BdL M (cnr p) := fun i => by
  unfold nt.cnr
  rw [tms_gd]
  have := mulAB (h.lea i) (sg_abs (z := lst (nt.lea p)))
  rw [Nat.mul_one] at this
  exact this
theorem cm_nil {f : Nat} {p : List Int} : cmn (f + 1) p [] = lea p ∧ cmnB (f + 1) p [] = allB p := ⟨rfl, rfl⟩
theorem cm_step {f : Nat} {p o : List Int} (h : 0 < o.length) : cmn (f + 1) p o = cmn f o (lea (ovF p o).2) ∧ cmnB (f + 1) p o = (Nat.ble o.length p.length && ovB p o && cmnB f o (lea (ovF p o).2)) := by
  have e : Nat.beq o.length 0 = false := by rw [nbeq]; simp; intro e; rw [e] at h; simp at h
  constructor
  · rw [cmn, e, cond_false]
  · rw [cmnB, e, cond_false]
theorem cm_const {f M : Nat} {p : List Int} {e : Int} (he : e = 1 ∨ e = -1) (hp : 1 ≤ p.length) (h4 : p.length ≤ 4) (hb : BdL M p) (hM : M ≤ 1000000000) : cmn (f + 2) p [e] = [e] ∧ cmnB (f + 2) p [e] = true := by
  have h0 : e ≠ 0 := by omega
  obtain ⟨h1, h2⟩ := cm_step (f := f + 1) (p := p) (o := [e]) (by simp)
  obtain ⟨a1, a2⟩ := ov_1 h0 (p := p) hp
  have hl : lea ([] : List Int) = [] := rfl
  rw [a1, hl] at h1 h2
  rw [h1, h2, cm_nil.1, cm_nil.2]
  have b1 : BdL 1 [e] := BdL_1 (by rcases he with rfl | rfl <;> decide)
  have hv : ovB p [e] = true := ovB_of (A := 1000000000) (B := 1) (hb.mono hM) b1 (by decide) (by decide) (by simp) (by decide) (by
    have : 1000000000 * (2 * 1 + 1) ^ (p.length + 1 - [e].length) ≤ 1000000000 * (2 * 1 + 1) ^ 4 := Nat.mul_le_mul_left _ (Nat.pow_le_pow_right (by decide) (by simp; omega))
    omega)
  rw [hv, b1.all (by decide), show Nat.ble [e].length p.length = true from Nat.ble_eq_true_of_le hp]
  refine ⟨?_, rfl⟩
  rw [lea_one h0]
  rcases he with rfl | rfl <;> rfl
theorem corB_of {p G Q : List Int} (hp : BdL 50 p) (h2 : 2 ≤ p.length) (h4 : p.length ≤ 4) (hs : BdL 150 (slp p)) (hc : cmnB 5 p (slp p) = true) (hG : cmn 5 p (slp p) = G) (g1 : 1 ≤ G.length) (g2 : G.length ≤ p.length) (hv : ovB p G = true) (hQ : Pro (ovF p G).1 Q) (q1 : 1 ≤ (lea Q).length) (q2 : (lea Q).length ≤ 60) (hb : BdL 700 (cnr Q)) :
    corB p = true ∧ corG p = G ∧ cor p = cnr Q := by
  have hG : corG p = G := hG
  have hC : cor p = cnr Q := by rw [cor_cnr, hG, hQ.cnr]
  refine ⟨?_, hG, hC⟩
  have hQ2 : corQ p = lea Q := by unfold corQ; rw [hG, hQ.lea]
  unfold corB
  rw [hC, hQ2, hG, hc, hv, hp.all (by decide), hs.all (by decide), hb.all (by decide), Nat.ble_eq_true_of_le h2, Nat.ble_eq_true_of_le (show p.length ≤ 60 by omega), Nat.ble_eq_true_of_le g1, Nat.ble_eq_true_of_le g2, Nat.ble_eq_true_of_le q1, Nat.ble_eq_true_of_le q2]
  rfl
/-- without a root that occurs again, the core is the polynomial itself -/
theorem cor_S {p : List Int} {e : Int} (he : e = 1 ∨ e = -1) (hp : BdL 50 p) (h2 : 2 ≤ p.length) (h4 : p.length ≤ 4) (hl : lst p ≠ 0) (hs : BdL 150 (slp p)) (hc : cmnB 5 p (slp p) = true) (hG : cmn 5 p (slp p) = [e]) :
    corB p = true ∧ corG p = [e] ∧ cor p = cnr p := by
  obtain ⟨a1, a2⟩ := ov_1 (e := e) (by omega) (p := p) (by omega)
  have hsg : sg e = e := by rcases he with rfl | rfl <;> rfl
  rw [hsg] at a2
  have b1 : BdL 1 [e] := BdL_1 (by rcases he with rfl | rfl <;> decide)
  have hv : ovB p [e] = true := ovB_of (A := 50) (B := 1) hp b1 (by decide) (by decide) (by simp) (by decide) (by
    have : 50 * (2 * 1 + 1) ^ (p.length + 1 - [e].length) ≤ 50 * (2 * 1 + 1) ^ 4 := Nat.mul_le_mul_left _ (Nat.pow_le_pow_right (by decide) (by simp; omega))
    omega)
  have hle : (lea (tms p e)).length = p.length := by
    rw [lea_len_of (by rw [tms_len, tms_gd]; intro z; rcases Int.mul_eq_zero.1 z with z | z; exact hl z; omega), tms_len]
  obtain ⟨r1, r2, r3⟩ := corB_of (G := [e]) (Q := tms p e) hp h2 h4 hs hc hG (by simp) (by simp; omega) hv a2 (by omega) (by omega) (by rw [cnr_sg he]; exact hp.cnr.mono (by decide))
  exact ⟨r1, r2, by rw [r3, cnr_sg he]⟩
end Go.Proofs.Ytkmompbfcgjgmaa.nt
namespace Go.Proofs.Ytkmompbfcgjgmaa.nt
open Go.GE
set_option linter.unusedVariables false
set_option linter.unusedSimpArgs false
set_option linter.unusedSectionVars false
set_option maxRecDepth 100000
set_option maxHeartbeats 4000000
theorem cop_dvd {a b z : Int} (h : Int.gcd a b = 1) (hd : b ∣ z * a) : b ∣ z := by
  rw [← Int.natAbs_dvd_natAbs] at hd ⊢
  rw [Int.natAbs_mul] at hd
  have : Nat.Coprime b.natAbs a.natAbs := by
    unfold Nat.Coprime
    rw [Nat.gcd_comm]
    exact h
  exact this.dvd_of_dvd_mul_right hd
theorem sq_bd {r s : Int} {M : Nat} (hs : s ≠ 0) (h : (r * r * s).natAbs ≤ M) : (r * r).natAbs ≤ M := by
  rw [Int.natAbs_mul] at h
  have : 1 ≤ s.natAbs := by omega
  exact Nat.le_trans (Nat.le_mul_of_pos_right _ this) h
theorem r7 {r : Int} (h : (r * r).natAbs ≤ 50) : r.natAbs ≤ 7 := by
  rw [Int.natAbs_mul] at h
  by_cases c : r.natAbs ≤ 7
  · exact c
  · have : 8 * 8 ≤ r.natAbs * r.natAbs := Nat.mul_le_mul (by omega) (by omega)
    omega
theorem epA {x0 x1 s0 s1 : Int} : [x0 * (x0 * s0), x1 * (x0 * s0) + x0 * (x1 * s0 + x0 * s1), x1 * (x1 * s0 + x0 * s1) + x0 * (x1 * s1), x1 * (x1 * s1)] = [x0 * x0 * s0, 2 * x0 * x1 * s0 + x0 * x0 * s1, 2 * x0 * x1 * s1 + x1 * x1 * s0, x1 * x1 * s1] := by
  have h0 : x0 * (x0 * s0) = x0 * x0 * s0 := by grind
  have h1 : x1 * (x0 * s0) + x0 * (x1 * s0 + x0 * s1) = 2 * x0 * x1 * s0 + x0 * x0 * s1 := by grind
  have h2 : x1 * (x1 * s0 + x0 * s1) + x0 * (x1 * s1) = 2 * x0 * x1 * s1 + x1 * x1 * s0 := by grind
  have h3 : x1 * (x1 * s1) = x1 * x1 * s1 := by grind
  rw [h0, h1, h2, h3]
theorem sqA {x0 x1 s0 s1 m y0 y1 y2 : Int} (h0 : m * y0 = x0 * s0) (h1 : m * y1 = x1 * s0 + x0 * s1) (h2 : m * y2 = x1 * s1) : (x0 * s1 - x1 * s0) * (x0 * s1 - x1 * s0) = -(m * m * (4 * y2 * y0 - y1 * y1)) := by
  have : m * m * (4 * y2 * y0 - y1 * y1) = 4 * (m * y2) * (m * y0) - (m * y1) * (m * y1) := by grind
  rw [this, h0, h1, h2]
  grind
section
variable {d c b a : Int} (ha : a ≠ 0) (h : BdL 50 [d, c, b, a])
include ha h
theorem cS4 (hS : (6 * a * c - 2 * b * b ≠ 0 ∧ dis d c b a ≠ 0) ∨ (6 * a * c - 2 * b * b = 0 ∧ 9 * a * d - b * c ≠ 0)) : chO (cnr [d, c, b, a]) = true := by
  obtain ⟨r0, r1, r2, r3, m, e, hm, h0, h1, h2, h3, hr⟩ := cnr_four (u := d) (v := c) (w := b) ha
  have hb := h.cnr
  rw [e] at hb ⊢
  have hmm : m * m ≠ 0 := by intro z; rcases Int.mul_eq_zero.1 z with z | z <;> exact hm z
  have e1 : 6 * a * c - 2 * b * b = m * m * (6 * r3 * r1 - 2 * r2 * r2) := by rw [← h1, ← h2, ← h3]; grind
  have e2 : 9 * a * d - b * c = m * m * (9 * r3 * r0 - r2 * r1) := by rw [← h0, ← h1, ← h2, ← h3]; grind
  have e3 : dis d c b a = m * m * (m * m) * m * dis r0 r1 r2 r3 := by
    unfold dis
    rw [e1, e2, ← h1, ← h2, ← h3]
    generalize 6 * r3 * r1 - 2 * r2 * r2 = A
    generalize 9 * r3 * r0 - r2 * r1 = B
    grind
  refine ch4 hr hb ?_
  rcases hS with ⟨v1, v2⟩ | ⟨v1, v2⟩
  · left
    refine ⟨fun z => v1 ?_, fun z => v2 ?_⟩
    · rw [e1, z, Int.mul_zero]
    · rw [e3, z, Int.mul_zero]
  · right
    rw [e1] at v1
    refine ⟨?_, fun z => v2 ?_⟩
    · rcases Int.mul_eq_zero.1 v1 with z | z
      · exact absurd z hmm
      · exact z
    · rw [e2, z, Int.mul_zero]
theorem o4 : BdL 150 (slp [d, c, b, a]) ∧ ovB [d, c, b, a] (slp [d, c, b, a]) = true ∧ Pro (ovF [d, c, b, a] (slp [d, c, b, a])).2 [a * (9 * a * d - b * c), a * (6 * a * c - 2 * b * b)] := by
  have hs : BdL 150 (slp [d, c, b, a]) := by
    rw [slp4]
    have hc : c.natAbs ≤ 50 := h 1
    have hb : b.natAbs ≤ 50 := h 2
    have ha' : a.natAbs ≤ 50 := h 3
    exact BdL_3 (by omega) (by omega) (by omega)
  refine ⟨hs, ovB_of (A := 50) (B := 150) h hs (by decide) (by decide) (by rw [slp4]; simp) (by decide) (by rw [slp4]; simp), ?_⟩
  rw [slp4]
  exact (ov43 (g := 1) (o0 := c) (o1 := 2 * b) (o2 := 3 * a) ha (by decide) (by omega) (by omega) (by omega)).1
theorem ble43 : Nat.ble (slp [d, c, b, a]).length [d, c, b, a].length = true := by rw [slp4]; rfl
/-- no root occurs again -/
theorem cor4_S (hS : (6 * a * c - 2 * b * b ≠ 0 ∧ dis d c b a ≠ 0) ∨ (6 * a * c - 2 * b * b = 0 ∧ 9 * a * d - b * c ≠ 0)) :
    corB [d, c, b, a] = true ∧ (∃ e, (e = 1 ∨ e = -1) ∧ corG [d, c, b, a] = [e]) ∧ cor [d, c, b, a] = cnr [d, c, b, a] := by
  obtain ⟨hs, hv, hP⟩ := o4 ha h
  obtain ⟨c1, c2⟩ := cm_step (f := 4) (p := [d, c, b, a]) (o := slp [d, c, b, a]) (by rw [slp4]; simp)
  rw [ble43 ha h, hv, hP.lea] at c2
  rw [hP.lea] at c1
  have hl : lst [d, c, b, a] ≠ 0 := ha
  rcases hS with ⟨v1, v2⟩ | ⟨v1, v2⟩
  · have hV : a * (6 * a * c - 2 * b * b) ≠ 0 := fun z => by rcases Int.mul_eq_zero.1 z with z | z; exact ha z; exact v1 z
    obtain ⟨x0, x1, g, ex, hg, g0, g1, g2, _⟩ := lea_two (u := a * (9 * a * d - b * c)) hV
    rw [ex] at c1 c2
    obtain ⟨d1, d2⟩ := cm_step (f := 3) (p := slp [d, c, b, a]) (o := [x0, x1]) (by simp)
    have h1 := (ov32 (p0 := c) (p1 := 2 * b) (p2 := 3 * a) (r0 := x0) (by omega) g2).1
    have hE : ∃ e, (e = 1 ∨ e = -1) ∧ lea (ovF (slp [d, c, b, a]) [x0, x1]).2 = [e] := by
      rw [slp4, h1.lea]
      have hne : x1 * x1 * c - x0 * x1 * (2 * b) + x0 * x0 * (3 * a) ≠ 0 := by
        intro z
        have : g * g * (x1 * x1 * c - x0 * x1 * (2 * b) + x0 * x0 * (3 * a)) = a * a * dis d c b a := by
          unfold dis
          rw [show g * g * (x1 * x1 * c - x0 * x1 * (2 * b) + x0 * x0 * (3 * a)) = (g * x1) * (g * x1) * c - (g * x0) * (g * x1) * (2 * b) + (g * x0) * (g * x0) * (3 * a) by grind, g0, g1]
          grind
        rw [z, Int.mul_zero] at this
        rcases Int.mul_eq_zero.1 this.symm with z | z
        · rcases Int.mul_eq_zero.1 z with z | z <;> exact ha z
        · exact v2 z
      exact ⟨_, sg_pm hne, lea_one hne⟩
    obtain ⟨e, he, hE⟩ := hE
    have hxb : BdL 25000 [x0, x1] := by
      rw [← ex]
      have huv := uv_bd h
      intro i
      rcases (by omega : a < 0 ∨ 0 < a) with hn | hn
      · have : Pro [a * (9 * a * d - b * c), a * (6 * a * c - 2 * b * b)] (tms [9 * a * d - b * c, 6 * a * c - 2 * b * b] (-1)) := Pro_2 (m := 1) (k := -a) (by simp) (by decide) (by omega) (by
          show a * _ * 1 = (9 * a * d - b * c) * -1 * -a; grind) (by show a * _ * 1 = (6 * a * c - 2 * b * b) * -1 * -a; grind)
        rw [this.lea]
        exact (huv.neg (.inr rfl)).lea i
      · have : Pro [a * (9 * a * d - b * c), a * (6 * a * c - 2 * b * b)] [9 * a * d - b * c, 6 * a * c - 2 * b * b] := Pro_2 (m := 1) (k := a) (by simp) (by decide) hn (by
          show a * _ * 1 = (9 * a * d - b * c) * a; grind) (by show a * _ * 1 = (6 * a * c - 2 * b * b) * a; grind)
        rw [this.lea]
        exact huv.lea i
    have hv2 : ovB (slp [d, c, b, a]) [x0, x1] = true := ovB_of (A := 150) (B := 25000) hs hxb (by decide) (by decide) (by simp) (by decide) (by rw [slp4]; simp)
    obtain ⟨k1, k2⟩ := cm_const (f := 1) (p := [x0, x1]) he (by simp) (by simp) hxb (by decide)
    rw [hE, k1] at d1
    rw [hE, k2, hv2, show Nat.ble [x0, x1].length (slp [d, c, b, a]).length = true by rw [slp4]; rfl] at d2
    obtain ⟨r1, r2, r3⟩ := cor_S he h (by simp) (by simp) hl hs (by rw [c2, d2]; rfl) (by rw [c1, d1])
    exact ⟨r1, ⟨e, he, r2⟩, r3⟩
  · have hP2 : Pro [a * (9 * a * d - b * c), a * (6 * a * c - 2 * b * b)] [a * (9 * a * d - b * c)] := by
      rw [v1, Int.mul_zero]
      exact Pro_int (m := 1) (k := 1) (by decide) (by decide) fun i => by
        rcases i with _ | _ | i
        · rfl
        · rfl
        · rw [getD_big (by simp), getD_big (by simp)]
    have hU : a * (9 * a * d - b * c) ≠ 0 := fun z => by rcases Int.mul_eq_zero.1 z with z | z; exact ha z; exact v2 z
    rw [hP2.lea, lea_one hU] at c1 c2
    have he := sg_pm hU
    obtain ⟨k1, k2⟩ := cm_const (f := 2) (p := slp [d, c, b, a]) he (by rw [slp4]; simp) (by rw [slp4]; simp) hs (by decide)
    obtain ⟨r1, r2, r3⟩ := cor_S he h (by simp) (by simp) hl hs (by rw [c2, k2]; rfl) (by rw [c1, k1])
    exact ⟨r1, ⟨_, he, r2⟩, r3⟩
/-- a root that occurs three times -/
theorem cor4_T (h1 : 6 * a * c - 2 * b * b = 0) (h2 : 9 * a * d - b * c = 0) :
    corB [d, c, b, a] = true ∧ corG [d, c, b, a] = lea (slp [d, c, b, a]) ∧ cor [d, c, b, a] = cnr [a * b, 3 * a * a] ∧ chO (cnr [a * b, 3 * a * a]) = true := by
  obtain ⟨hs, hv, hP⟩ := o4 ha h
  obtain ⟨c1, c2⟩ := cm_step (f := 4) (p := [d, c, b, a]) (o := slp [d, c, b, a]) (by rw [slp4]; simp)
  have e0 : lea [(0 : Int), 0] = [] := by decide
  rw [h1, h2, Int.mul_zero] at hP
  rw [ble43 ha h, hv, hP.lea, e0, cm_nil.2, hs.all (by decide)] at c2
  rw [hP.lea, e0, cm_nil.1] at c1
  obtain ⟨o0, o1, o2, g, e, hg, g0, g1, g2, g3⟩ := lea_three (u := c) (v := 2 * b) (w := 3 * a) (by omega)
  have hQ := (ov43 (d := d) (c := c) (b := b) (a := a) ha hg g0 g1 g2).2
  have hG : lea (slp [d, c, b, a]) = [o0, o1, o2] := by rw [slp4, e]
  have hB : BdL 150 [o0, o1, o2] := by rw [← hG]; exact hs.lea
  have haa : 3 * a * a ≠ 0 := fun z => by rcases Int.mul_eq_zero.1 z with z | z <;> omega
  have hb : BdL 700 (cnr [a * b, 3 * a * a]) := by
    have hb' : b.natAbs ≤ 50 := h 2
    have ha' : a.natAbs ≤ 50 := h 3
    have hPr : ∃ σ : Int, (σ = 1 ∨ σ = -1) ∧ Pro [a * b, 3 * a * a] (tms [b, 3 * a] σ) := by
      obtain ⟨σ, s, hσ, hs, e1, e2, e3⟩ := sg_split ha
      refine ⟨σ, hσ, Pro_2 (m := 1) (k := s) (by simp) (by decide) hs ?_ ?_⟩
      · show a * b * 1 = b * σ * s; rw [e1]; grind
      · show 3 * a * a * 1 = 3 * a * σ * s; rw [e1]; grind
    obtain ⟨σ, hσ, hPr⟩ := hPr
    rw [hPr.cnr, cnr_sg hσ]
    exact BdL.cnr (BdL_2 (by omega) (by omega))
  obtain ⟨r1, r2, r3⟩ := corB_of (G := [o0, o1, o2]) (Q := [a * b, 3 * a * a]) h (by simp) (by simp) hs (by rw [c2]; rfl) (by rw [c1, hG]) (by simp) (by simp) (ovB_of (A := 50) (B := 150) h hB (by decide) (by decide) (by simp) (by decide) (by simp)) hQ (by rw [lea_len_of (p := [a * b, 3 * a * a]) haa]; simp) (by rw [lea_len_of (p := [a * b, 3 * a * a]) haa]; simp) hb
  refine ⟨r1, by rw [r2, hG], r3, ?_⟩
  obtain ⟨y0, y1, m, ey, hm, m0, m1, hy⟩ := cnr_two (u := a * b) haa
  rw [ey] at hb ⊢
  exact ch2 (by omega) hb
/-- a root that occurs twice -/
theorem cor4_D (h1 : 6 * a * c - 2 * b * b ≠ 0) (h2 : dis d c b a = 0) : ∃ r0 r1 s0 s1 : Int, Int.gcd r0 r1 = 1 ∧ r1 ≠ 0 ∧ s1 ≠ 0 ∧ r0 * s1 - r1 * s0 ≠ 0 ∧ d = r0 * r0 * s0 ∧ c = 2 * r0 * r1 * s0 + r0 * r0 * s1 ∧ b = 2 * r0 * r1 * s1 + r1 * r1 * s0 ∧ a = r1 * r1 * s1 ∧
    corB [d, c, b, a] = true ∧ corG [d, c, b, a] = [r0, r1] ∧ cor [d, c, b, a] = cnr [r0 * s0, r1 * s0 + r0 * s1, r1 * s1] ∧ chO (cnr [r0 * s0, r1 * s0 + r0 * s1, r1 * s1]) = true := by
  obtain ⟨hs, hv, hP⟩ := o4 ha h
  obtain ⟨c1, c2⟩ := cm_step (f := 4) (p := [d, c, b, a]) (o := slp [d, c, b, a]) (by rw [slp4]; simp)
  rw [ble43 ha h, hv, hP.lea] at c2
  rw [hP.lea] at c1
  have hV : a * (6 * a * c - 2 * b * b) ≠ 0 := fun z => by rcases Int.mul_eq_zero.1 z with z | z; exact ha z; exact h1 z
  obtain ⟨x0, x1, g, ex, hg, g0, g1, g2, hcop⟩ := lea_two (u := a * (9 * a * d - b * c)) hV
  rw [ex] at c1 c2
  obtain ⟨d1, d2⟩ := cm_step (f := 3) (p := slp [d, c, b, a]) (o := [x0, x1]) (by simp)
  have hO := (ov32 (p0 := c) (p1 := 2 * b) (p2 := 3 * a) (r0 := x0) (by omega) g2).1
  have hz : x1 * x1 * c - x0 * x1 * (2 * b) + x0 * x0 * (3 * a) = 0 := by
    have : g * g * (x1 * x1 * c - x0 * x1 * (2 * b) + x0 * x0 * (3 * a)) = a * a * dis d c b a := by
      unfold dis
      rw [show g * g * (x1 * x1 * c - x0 * x1 * (2 * b) + x0 * x0 * (3 * a)) = (g * x1) * (g * x1) * c - (g * x0) * (g * x1) * (2 * b) + (g * x0) * (g * x0) * (3 * a) by grind, g0, g1]
      grind
    rw [h2, Int.mul_zero] at this
    exact mul3_zero (Int.mul_pos hg hg) this
  -- the root
  have huv : x1 * (9 * a * d - b * c) - x0 * (6 * a * c - 2 * b * b) = 0 := by
    have : a * (x1 * (9 * a * d - b * c) - x0 * (6 * a * c - 2 * b * b)) = 0 := by
      rw [show a * (x1 * (9 * a * d - b * c) - x0 * (6 * a * c - 2 * b * b)) = x1 * (a * (9 * a * d - b * c)) - x0 * (a * (6 * a * c - 2 * b * b)) by grind, ← g0, ← g1]
      grind
    rcases Int.mul_eq_zero.1 this with z | z
    · exact absurd z ha
    · exact z
  have hroot : d * x1 * x1 * x1 - c * x1 * x1 * x0 + b * x1 * x0 * x0 - a * x0 * x0 * x0 = 0 := by
    have : a * 9 * (d * x1 * x1 * x1 - c * x1 * x1 * x0 + b * x1 * x0 * x0 - a * x0 * x0 * x0) = (b * x1 - 3 * a * x0) * (x1 * x1 * c - x0 * x1 * (2 * b) + x0 * x0 * (3 * a)) + x1 * x1 * (x1 * (9 * a * d - b * c) - x0 * (6 * a * c - 2 * b * b)) := by grind
    rw [hz, huv, Int.mul_zero, Int.mul_zero] at this
    rcases Int.mul_eq_zero.1 this with z | z
    · omega
    · exact z
  -- what it divides
  obtain ⟨q2, e2⟩ : x1 ∣ a := by
    have a1 : x1 ∣ a * x0 * x0 * x0 := ⟨d * x1 * x1 - c * x1 * x0 + b * x0 * x0, by grind⟩
    exact cop_dvd hcop (cop_dvd hcop (cop_dvd hcop a1))
  have k1 : d * x1 * x1 - c * x1 * x0 + b * x0 * x0 - q2 * x0 * x0 * x0 = 0 := by
    have : x1 * (d * x1 * x1 - c * x1 * x0 + b * x0 * x0 - q2 * x0 * x0 * x0) = 0 := by rw [← hroot, e2]; grind
    rcases Int.mul_eq_zero.1 this with z | z
    · exact absurd z g2
    · exact z
  obtain ⟨q1, e1⟩ : x1 ∣ b - q2 * x0 := by
    have a1 : x1 ∣ (b - q2 * x0) * x0 * x0 := ⟨c * x0 - d * x1, by grind⟩
    exact cop_dvd hcop (cop_dvd hcop a1)
  have k2 : d * x1 - c * x0 + q1 * x0 * x0 = 0 := by
    have : x1 * (d * x1 - c * x0 + q1 * x0 * x0) = 0 := by rw [← k1, show b = x1 * q1 + q2 * x0 by omega]; grind
    rcases Int.mul_eq_zero.1 this with z | z
    · exact absurd z g2
    · exact z
  obtain ⟨q0, e0⟩ : x1 ∣ c - q1 * x0 := by
    have a1 : x1 ∣ (c - q1 * x0) * x0 := ⟨d, by rw [Int.sub_mul, Int.mul_comm x1 d]; omega⟩
    exact cop_dvd hcop a1
  have ed : d = q0 * x0 := by
    have : x1 * (d - q0 * x0) = 0 := by rw [← k2, show c = x1 * q0 + q1 * x0 by omega]; grind
    rcases Int.mul_eq_zero.1 this with z | z
    · exact absurd z g2
    · omega
  have eb : b = x1 * q1 + q2 * x0 := by omega
  have ec : c = x1 * q0 + q1 * x0 := by omega
  have k3 : q0 * x1 * x1 - q1 * x1 * x0 + q2 * x0 * x0 = 0 := by
    have : x1 * (q0 * x1 * x1 - q1 * x1 * x0 + q2 * x0 * x0) = 0 := by rw [← hz, ec, eb, e2]; grind
    rcases Int.mul_eq_zero.1 this with z | z
    · exact absurd z g2
    · exact z
  obtain ⟨s1, f1⟩ : x1 ∣ q2 := by
    have a1 : x1 ∣ q2 * x0 * x0 := ⟨q1 * x0 - q0 * x1, by grind⟩
    exact cop_dvd hcop (cop_dvd hcop a1)
  have k4 : q0 * x1 - q1 * x0 + s1 * x0 * x0 = 0 := by
    have : x1 * (q0 * x1 - q1 * x0 + s1 * x0 * x0) = 0 := by rw [← k3, f1]; grind
    rcases Int.mul_eq_zero.1 this with z | z
    · exact absurd z g2
    · exact z
  obtain ⟨s0, f0⟩ : x1 ∣ q1 - s1 * x0 := by
    have a1 : x1 ∣ (q1 - s1 * x0) * x0 := ⟨q0, by rw [Int.sub_mul, Int.mul_comm x1 q0]; omega⟩
    exact cop_dvd hcop a1
  have g0' : q0 = s0 * x0 := by
    have : x1 * (q0 - s0 * x0) = 0 := by rw [← k4, show q1 = x1 * s0 + s1 * x0 by omega]; grind
    rcases Int.mul_eq_zero.1 this with z | z
    · exact absurd z g2
    · omega
  have g1' : q1 = x1 * s0 + s1 * x0 := by omega
  have hs1 : s1 ≠ 0 := by intro z; rw [z] at f1; rw [f1] at e2; simp at e2; exact ha e2
  have Ed : d = x0 * x0 * s0 := by rw [ed, g0']; grind
  have Ec : c = 2 * x0 * x1 * s0 + x0 * x0 * s1 := by rw [ec, g0', g1']; grind
  have Eb : b = 2 * x0 * x1 * s1 + x1 * x1 * s0 := by rw [eb, g1', f1]; grind
  have Ea : a = x1 * x1 * s1 := by rw [e2, f1]; grind
  have hne : x0 * s1 - x1 * s0 ≠ 0 := by
    intro z
    apply h1
    have : 6 * a * c - 2 * b * b = -2 * x1 * x1 * ((x0 * s1 - x1 * s0) * (x0 * s1 - x1 * s0)) := by rw [Ea, Ec, Eb]; grind
    rw [this, z]; simp
  -- bounds
  have bd0 : (x0 * x0 * s0).natAbs ≤ 50 := by rw [← Ed]; exact h 0
  have bd3 : (x1 * x1 * s1).natAbs ≤ 50 := by rw [← Ea]; exact h 3
  have b1 : x1.natAbs ≤ 7 := r7 (sq_bd hs1 bd3)
  have bs1 : s1.natAbs ≤ 50 := by
    rw [Int.natAbs_mul] at bd3
    exact Nat.le_trans (Nat.le_mul_of_pos_left _ (by rw [Int.natAbs_mul]; exact Nat.mul_pos (by omega) (by omega))) bd3
  have b0 : x0.natAbs ≤ 7 := by
    by_cases z : s0 = 0
    · have : (x0 * x0 * s1).natAbs ≤ 50 := by
        have : c.natAbs ≤ 50 := h 1
        rw [Ec, z] at this
        simpa using this
      exact r7 (sq_bd hs1 this)
    · exact r7 (sq_bd z bd0)
  have bs0 : s0.natAbs ≤ 50 := by
    by_cases z : x0 = 0
    · subst z
      have hx1 : x1.natAbs = 1 := by
        have : Int.gcd 0 x1 = x1.natAbs := Int.gcd_zero_left ..
        omega
      have : b.natAbs ≤ 50 := h 2
      rw [Eb] at this
      simp only [Int.mul_zero, Int.zero_mul, Int.zero_add] at this
      rw [Int.natAbs_mul, Int.natAbs_mul, hx1] at this
      omega
    · rw [Int.natAbs_mul] at bd0
      exact Nat.le_trans (Nat.le_mul_of_pos_left _ (by rw [Int.natAbs_mul]; exact Nat.mul_pos (by omega) (by omega))) bd0
  have bQ : BdL 700 [x0 * s0, x1 * s0 + x0 * s1, x1 * s1] := by
    have m1 := mulAB b0 bs0
    have m2 := mulAB b1 bs0
    have m3 := mulAB b0 bs1
    have m4 := mulAB b1 bs1
    exact BdL_3 (by omega) (by omega) (by omega)
  have hx11 : x1 * s1 ≠ 0 := fun z => by rcases Int.mul_eq_zero.1 z with z | z; exact g2 z; exact hs1 z
  have hxb : BdL 7 [x0, x1] := BdL_2 b0 b1
  have e4 : lea (ovF (slp [d, c, b, a]) [x0, x1]).2 = [] := by
    rw [slp4, hO.lea, hz]; decide
  have hv2 : ovB (slp [d, c, b, a]) [x0, x1] = true := ovB_of (A := 150) (B := 7) hs hxb (by decide) (by decide) (by simp) (by decide) (by rw [slp4]; simp)
  rw [e4, cm_nil.1] at d1
  rw [e4, cm_nil.2, hv2, show Nat.ble [x0, x1].length (slp [d, c, b, a]).length = true by rw [slp4]; rfl, hxb.all (by decide)] at d2
  have hlx : lea [x0, x1] = [x0, x1] := by rw [← ex, lea_lea]
  have hQ := ov42 (q0 := x0 * s0) (q1 := x1 * s0 + x0 * s1) (r0 := x0) hx11 g2
  have ep : [x0 * (x0 * s0), x1 * (x0 * s0) + x0 * (x1 * s0 + x0 * s1), x1 * (x1 * s0 + x0 * s1) + x0 * (x1 * s1), x1 * (x1 * s1)] = [d, c, b, a] := by
    rw [epA, ← Ed, ← Ec, ← Eb, ← Ea]
  rw [ep] at hQ
  obtain ⟨r1, r2, r3⟩ := corB_of (G := [x0, x1]) (Q := [x0 * s0, x1 * s0 + x0 * s1, x1 * s1]) h (by simp) (by simp) hs (by rw [c2, d2]; rfl) (by rw [c1, d1, hlx]) (by simp) (by simp) (ovB_of (A := 50) (B := 7) h hxb (by decide) (by decide) (by simp) (by decide) (by simp)) hQ (by rw [lea_len_of (p := [x0 * s0, x1 * s0 + x0 * s1, x1 * s1]) hx11]; simp) (by rw [lea_len_of (p := [x0 * s0, x1 * s0 + x0 * s1, x1 * s1]) hx11]; simp) bQ.cnr
  refine ⟨x0, x1, s0, s1, hcop, g2, hs1, hne, Ed, Ec, Eb, Ea, r1, r2, r3, ?_⟩
  obtain ⟨y0, y1, y2, m, ey, hm, m0, m1, m2, hy⟩ := cnr_three (u := x0 * s0) (v := x1 * s0 + x0 * s1) hx11
  have hb := bQ.cnr
  rw [ey] at hb ⊢
  refine ch3 (by omega) hb ?_
  intro z
  apply hne
  have := sqA m0 m1 m2
  rw [z, Int.mul_zero] at this
  rcases Int.mul_eq_zero.1 this with z | z <;> exact z
end
end Go.Proofs.Ytkmompbfcgjgmaa.nt
namespace Go.Proofs.Ytkmompbfcgjgmaa.nt
open Go.GE
set_option linter.unusedVariables false
set_option linter.unusedSimpArgs false
set_option linter.unusedSectionVars false
set_option maxRecDepth 100000
set_option maxHeartbeats 4000000
section
variable {c b a : Int} (ha : a ≠ 0) (h : BdL 50 [c, b, a])
include ha h
theorem o3 : BdL 150 (slp [c, b, a]) ∧ ovB [c, b, a] (slp [c, b, a]) = true ∧ Pro (ovF [c, b, a] (slp [c, b, a])).2 [a * (4 * a * c - b * b)] := by
  have hs : BdL 150 (slp [c, b, a]) := by
    rw [slp3]
    have hb : b.natAbs ≤ 50 := h 1
    have ha' : a.natAbs ≤ 50 := h 2
    exact BdL_2 (by omega) (by omega)
  refine ⟨hs, ovB_of (A := 50) (B := 150) h hs (by decide) (by decide) (by rw [slp3]; simp) (by decide) (by rw [slp3]; simp), ?_⟩
  rw [slp3]
  have := (ov32 (p0 := c) (p1 := b) (p2 := a) (r0 := b) (r1 := 2 * a) ha (by omega)).1
  rwa [show 2 * a * (2 * a) * c - b * (2 * a) * b + b * b * a = a * (4 * a * c - b * b) by grind] at this
theorem cor3_S (hd : 4 * a * c - b * b ≠ 0) : corB [c, b, a] = true ∧ (∃ e, (e = 1 ∨ e = -1) ∧ corG [c, b, a] = [e]) ∧ cor [c, b, a] = cnr [c, b, a] := by
  obtain ⟨hs, hv, hP⟩ := o3 ha h
  obtain ⟨c1, c2⟩ := cm_step (f := 4) (p := [c, b, a]) (o := slp [c, b, a]) (by rw [slp3]; simp)
  have hU : a * (4 * a * c - b * b) ≠ 0 := fun z => by rcases Int.mul_eq_zero.1 z with z | z; exact ha z; exact hd z
  have he := sg_pm hU
  obtain ⟨k1, k2⟩ := cm_const (f := 2) (p := slp [c, b, a]) he (by rw [slp3]; simp) (by rw [slp3]; simp) hs (by decide)
  rw [show Nat.ble (slp [c, b, a]).length [c, b, a].length = true by rw [slp3]; rfl, hv, hP.lea, lea_one hU, k2] at c2
  rw [hP.lea, lea_one hU, k1] at c1
  obtain ⟨r1, r2, r3⟩ := cor_S he h (by simp) (by simp) ha hs (by rw [c2]; rfl) c1
  exact ⟨r1, ⟨_, he, r2⟩, r3⟩
theorem cS3 (hd : 4 * a * c - b * b ≠ 0) : chO (cnr [c, b, a]) = true := by
  obtain ⟨y0, y1, y2, m, ey, hm, m0, m1, m2, hy⟩ := cnr_three (u := c) (v := b) ha
  have hb := (h.mono (show 50 ≤ 700 by decide)).cnr
  rw [ey] at hb ⊢
  refine ch3 (by omega) hb ?_
  intro z
  apply hd
  have : 4 * a * c - b * b = m * m * (4 * y2 * y0 - y1 * y1) := by rw [← m0, ← m1, ← m2]; grind
  rw [this, z, Int.mul_zero]
theorem cor3_D (hd : 4 * a * c - b * b = 0) : corB [c, b, a] = true ∧ corG [c, b, a] = lea (slp [c, b, a]) ∧ cor [c, b, a] = cnr [a * b, 2 * a * a] ∧ chO (cnr [a * b, 2 * a * a]) = true := by
  obtain ⟨hs, hv, hP⟩ := o3 ha h
  obtain ⟨c1, c2⟩ := cm_step (f := 4) (p := [c, b, a]) (o := slp [c, b, a]) (by rw [slp3]; simp)
  have e0 : lea [(0 : Int)] = [] := by decide
  rw [hd, Int.mul_zero] at hP
  rw [show Nat.ble (slp [c, b, a]).length [c, b, a].length = true by rw [slp3]; rfl, hv, hP.lea, e0, cm_nil.2, hs.all (by decide)] at c2
  rw [hP.lea, e0, cm_nil.1] at c1
  obtain ⟨o0, o1, g, e, hg, g0, g1, g2, _⟩ := lea_two (u := b) (v := 2 * a) (by omega)
  have hG : lea (slp [c, b, a]) = [o0, o1] := by rw [slp3, e]
  have hB : BdL 150 [o0, o1] := by rw [← hG]; exact hs.lea
  have haa : 2 * a * a ≠ 0 := fun z => by rcases Int.mul_eq_zero.1 z with z | z <;> omega
  have hQ : Pro (ovF [c, b, a] [o0, o1]).1 [a * b, 2 * a * a] := (ov32 (p0 := c) (p1 := b) (p2 := a) (r0 := o0) ha g2).2.trans (Pro_2 (m := g) (k := 1) (by simp) hg (by decide) (by
    show (o1 * b - o0 * a) * g = _; rw [show (o1 * b - o0 * a) * g = (g * o1) * b - (g * o0) * a by grind, g0, g1]; grind) (by
    show o1 * a * g = _; rw [show o1 * a * g = (g * o1) * a by grind, g1]; grind))
  have hb : BdL 700 (cnr [a * b, 2 * a * a]) := by
    have hb' : b.natAbs ≤ 50 := h 1
    have ha' : a.natAbs ≤ 50 := h 2
    have hPr : ∃ σ : Int, (σ = 1 ∨ σ = -1) ∧ Pro [a * b, 2 * a * a] (tms [b, 2 * a] σ) := by
      obtain ⟨σ, s, hσ, hs, e1, e2, e3⟩ := sg_split ha
      refine ⟨σ, hσ, Pro_2 (m := 1) (k := s) (by simp) (by decide) hs ?_ ?_⟩
      · show a * b * 1 = b * σ * s; rw [e1]; grind
      · show 2 * a * a * 1 = 2 * a * σ * s; rw [e1]; grind
    obtain ⟨σ, hσ, hPr⟩ := hPr
    rw [hPr.cnr, cnr_sg hσ]
    exact BdL.cnr (BdL_2 (by omega) (by omega))
  obtain ⟨r1, r2, r3⟩ := corB_of (G := [o0, o1]) (Q := [a * b, 2 * a * a]) h (by simp) (by simp) hs (by rw [c2]; rfl) (by rw [c1, hG]) (by simp) (by simp) (ovB_of (A := 50) (B := 150) h hB (by decide) (by decide) (by simp) (by decide) (by simp)) hQ (by rw [lea_len_of (p := [a * b, 2 * a * a]) haa]; simp) (by rw [lea_len_of (p := [a * b, 2 * a * a]) haa]; simp) hb
  refine ⟨r1, by rw [r2, hG], r3, ?_⟩
  obtain ⟨y0, y1, m, ey, hm, m0, m1, hy⟩ := cnr_two (u := a * b) haa
  rw [ey] at hb ⊢
  exact ch2 (by omega) hb
end
theorem cor2 {b a : Int} (ha : a ≠ 0) (h : BdL 50 [b, a]) : corB [b, a] = true ∧ (∃ e, (e = 1 ∨ e = -1) ∧ corG [b, a] = [e]) ∧ cor [b, a] = cnr [b, a] ∧ chO (cnr [b, a]) = true := by
  have ha' : a.natAbs ≤ 50 := h 1
  have hs : BdL 150 (slp [b, a]) := by rw [slp2]; exact BdL_1 (by omega)
  obtain ⟨c1, c2⟩ := cm_step (f := 4) (p := [b, a]) (o := slp [b, a]) (by rw [slp2]; simp)
  have hv : ovB [b, a] (slp [b, a]) = true := ovB_of (A := 50) (B := 150) h hs (by decide) (by decide) (by rw [slp2]; simp) (by decide) (by rw [slp2]; simp)
  have e0 : lea ([] : List Int) = [] := rfl
  have e1 : (ovF [b, a] (slp [b, a])).2 = [] := by rw [slp2]; exact (ov_1 ha (by simp)).1
  rw [show Nat.ble (slp [b, a]).length [b, a].length = true by rw [slp2]; rfl, hv, e1, e0, cm_nil.2, hs.all (by decide)] at c2
  rw [e1, e0, cm_nil.1, slp2, lea_one ha] at c1
  rw [slp2] at c2 hs
  obtain ⟨r1, r2, r3⟩ := cor_S (sg_pm ha) h (by simp) (by simp) ha (by rw [slp2]; exact hs) (by rw [slp2, c2]; rfl) (by rw [slp2]; exact c1)
  refine ⟨r1, ⟨_, sg_pm ha, r2⟩, r3, ?_⟩
  obtain ⟨y0, y1, m, ey, hm, m0, m1, hy⟩ := cnr_two (u := b) ha
  have hb := (h.mono (show 50 ≤ 700 by decide)).cnr
  rw [ey] at hb ⊢
  exact ch2 (by omega) hb
/-- no polynomial overflows, and each chain ends -/
theorem stuB_all {p : List Int} (h2 : 2 ≤ p.length) (h4 : p.length ≤ 4) (h : BdL 50 p) (hl : lst p ≠ 0) : stuB p = true := by
  match p, h2, h4 with
  | [b, a], _, _ =>
    obtain ⟨r1, _, r3, r4⟩ := cor2 (b := b) (a := a) hl h
    exact stuB_of r1 (by rw [r3]; exact r4)
  | [c, b, a], _, _ =>
    have ha : a ≠ 0 := hl
    by_cases hd : 4 * a * c - b * b = 0
    · obtain ⟨r1, _, r3, r4⟩ := cor3_D ha h hd
      exact stuB_of r1 (by rw [r3]; exact r4)
    · obtain ⟨r1, _, r3⟩ := cor3_S ha h hd
      exact stuB_of r1 (by rw [r3]; exact cS3 ha h hd)
  | [d, c, b, a], _, _ =>
    have ha : a ≠ 0 := hl
    by_cases hv : 6 * a * c - 2 * b * b = 0
    · by_cases hu : 9 * a * d - b * c = 0
      · obtain ⟨r1, _, r3, r4⟩ := cor4_T ha h hv hu
        exact stuB_of r1 (by rw [r3]; exact r4)
      · obtain ⟨r1, _, r3⟩ := cor4_S ha h (.inr ⟨hv, hu⟩)
        exact stuB_of r1 (by rw [r3]; exact cS4 ha h (.inr ⟨hv, hu⟩))
    · by_cases hD : dis d c b a = 0
      · obtain ⟨_, _, _, _, _, _, _, _, _, _, _, _, r1, _, r3, r4⟩ := cor4_D ha h hv hD
        exact stuB_of r1 (by rw [r3]; exact r4)
      · obtain ⟨r1, _, r3⟩ := cor4_S ha h (.inl ⟨hv, hD⟩)
        exact stuB_of r1 (by rw [r3]; exact cS4 ha h (.inl ⟨hv, hD⟩))
end Go.Proofs.Ytkmompbfcgjgmaa.nt
namespace Go.Proofs.Ytkmompbfcgjgmaa.nt
open Go.GE
set_option linter.unusedVariables false
set_option linter.unusedSimpArgs false
set_option linter.unusedSectionVars false
set_option maxRecDepth 100000
set_option maxHeartbeats 4000000
attribute [local simp] runOps_nil runOps_cons runOpsF_nil runOpsF_cons fstS_some fstF_some opStep_eq want_none oStep_true oStep_false fin_pure fin_read fin_alloc fin_write storeB wrN cellV addWr o_move o_assign o_pick o_alloc o_box o_load o_store o_nilCheck o_bin o_un o_extract o_callV o_callB o_callI callV_f callV_y callV_fc o_makeFunc partsA Instr.fill builtin_len builtin_max2 bin_add bin_sub bin_mul bin_quo bin_rem bin_lss bin_leq bin_gtr bin_geq bin_eql bin_neq un_neg un_not bin_shr bin_shl wrap_u64_id opd opds optAll putO nbeq nblt constOk isC ops sub cl cr co bodyOf thenS_normal thenS_ret thenS_exit thenS_goto afterN_normal afterN_ret afterN_exit afterN_goto condS_true condS_false blockS_normal blockS_ret blockS_exit blockS_goto headS normS normK_eq fixS_nil fixS_cons fix1 fixV emptyB keepO_nil keepO_cons roundC_normal roundC_exit roundC_ret roundC_goto sweep_eq sweepD rnm pickR pickW rootsB ptrT renT ptrFn renFn ptrB_flat ptrB_non renB_flat renB_non plainS_some drawS_some fpsOk disj unord range' dropTo enumT undef wrap_i64_id Value.cells mkCells ptrTo scal cellsAt rdN endS_ret resultsA Option.bind_some tupV finish reachN dep ptrL_eq ptrL renL_eq renL ptrV_bool ptrV_int ptrV_string ptrV_nilFunc ptrV_nilIface ptrV_nilPtr ptrV_ptr ptrV_nilSl ptrV_sl ptrV_iface ptrV_agg ptrV_tuple ptrV_func renV_bool renV_int renV_string renV_nilFunc renV_nilIface renV_nilPtr renV_ptr renV_nilSl renV_sl renV_iface renV_agg renV_tuple renV_func gotoS_goto gotoS_normal gotoS_exit gotoS_ret skip_seq sliceE bnd bndHi intOf optOpd keepT_nil keepT_cons keepC_t keepC_f lk_nil lk_cons lkC_t lkC_f has_nil has_cons hasC_t hasC_f rep_nil rep_cons repC_t repC_f put_eq putC_t putC_f mem_nil mem_cons memC_t memC_f idx_nil idx_cons idxC_t idxC_f reach_nil reachP_cons reachQ_t reachQ_f ptrB_dead renB_dead ins_eq
attribute [local simp] n17_1s n17_4s n17_6s n17_9s n17_10s n17_8s n17_11s n17_7s n17_5s n17_3s n17_13s n17_16s n17_20s n17_23s n17_24s n17_22s n17_28s n17_29s n17_27s n17_26s n17_30s n17_25s n17_21s n17_19s n17_18s n17_18g n17_17s n17_15s n17_32s n17_33s n17_31s n17_14s n17_12s n17_2s n17_0s Try.f17 n15_1s n15_4s n15_6s n15_9s n15_10s n15_8s n15_11s n15_7s n15_5s n15_3s n15_13s n15_14s n15_12s n15_2s n15_0s Try.f15 n13_1s n13_3s n13_7s n13_10s n13_11s n13_9s n13_13s n13_16s n13_17s n13_15s n13_18s n13_14s n13_12s n13_8s n13_6s n13_5s n13_20s n13_21s n13_19s n13_4s n13_2s n13_0s Try.f13
section
variable {cs M1 M2 : List Value} {own : Bool} (n1 n2 : Nat)
theorem l17_2_2 : lpB Try.prog LL ⟨17, 26, 1, none⟩ n17_18 n17_19 ⟨[(5, sl 1 0 2 2), (14, sl 4 0 2 2), (15, iv 2), (16, iv 2)], [.cells cs 1 true own, .cells [sl 2 0 n1 n1, sl 3 0 n2 n2] 1 false true, .cells M1 1 true true, .cells M2 1 true true, .cells [sl 2 0 n1 n1, sl 3 0 n2 n2] 1 false true], []⟩ = some (.exit 0, ⟨[(5, sl 1 0 2 2)], [.cells cs 1 true own, .cells [sl 2 0 n1 n1, sl 3 0 n2 n2] 1 false true, .cells M1 1 true true, .cells M2 1 true true], []⟩) := by
  rw [lpB_eq]
  simp (maxSteps := 1000000) (disch := first | omega | decide | assumption | simp [scal]) [lenA_sl lk_76, o_indexAddrS es_76, loadA_eq ia_71, o_indexAddrS es_31, ze_31, o_buildSlice es_31 ze_31 (by decide) ba_31_1, ap_31, builtin_append ni_31]
theorem l17_2_1 : lpB Try.prog LL ⟨17, 26, 1, none⟩ n17_18 n17_19 ⟨[(5, sl 1 0 1 1), (14, sl 3 0 2 2), (15, iv 2), (16, iv 1)], [.cells cs 1 true own, .cells [sl 2 0 n1 n1] 1 false true, .cells M1 1 true true, .cells [sl 2 0 n1 n1, sl 4 0 n2 n2] 1 false true, .cells M2 1 true true], []⟩ = some (.exit 0, ⟨[(5, sl 1 0 2 2)], [.cells cs 1 true own, .cells [sl 2 0 n1 n1, sl 3 0 n2 n2] 1 false true, .cells M1 1 true true, .cells M2 1 true true], []⟩) := by
  have ag := fun hp rd q m => app_g (h := hp) (b := 1) (c := 1) (l := 1) (V := [sl 2 0 n1 n1]) (v := sl q 0 m m) (fl := false) (rd := rd) rfl (by omega) rfl
  have this := l17_2_2 (cs := cs) (M1 := M1) (M2 := M2) (own := own) n1 n2
  simp only [Nat.reduceAdd, List.nil_append, List.cons_append] at ag
  rw [lpB_eq]
  simp (maxSteps := 1000000) (disch := first | omega | decide | assumption | simp [scal]) [lenA_sl lk_76, o_indexAddrS es_76, loadA_eq ia_71, o_indexAddrS es_31, ze_31, o_buildSlice es_31 ze_31 (by decide) ba_31_1, ap_31, builtin_append ni_31, append_some ap_31, srcCells, ag, this]
theorem l17_2_0 : lpB Try.prog LL ⟨17, 26, 1, none⟩ n17_18 n17_19 ⟨[(5, sl 1 0 0 0), (14, sl 2 0 2 2), (15, iv 2), (16, iv 0)], [.cells cs 1 true own, .cells [] 1 false true, .cells [sl 3 0 n1 n1, sl 4 0 n2 n2] 1 false true, .cells M1 1 true true, .cells M2 1 true true], []⟩ = some (.exit 0, ⟨[(5, sl 1 0 2 2)], [.cells cs 1 true own, .cells [sl 2 0 n1 n1, sl 3 0 n2 n2] 1 false true, .cells M1 1 true true, .cells M2 1 true true], []⟩) := by
  have ag := fun hp rd q m => app_g (h := hp) (b := 1) (c := 0) (l := 0) (V := []) (v := sl q 0 m m) (fl := false) (rd := rd) rfl (by omega) rfl
  have this := l17_2_1 (cs := cs) (M1 := M1) (M2 := M2) (own := own) n1 n2
  simp only [Nat.reduceAdd, List.nil_append, List.cons_append] at ag
  rw [lpB_eq]
  simp (maxSteps := 1000000) (disch := first | omega | decide | assumption | simp [scal]) [lenA_sl lk_76, o_indexAddrS es_76, loadA_eq ia_71, o_indexAddrS es_31, ze_31, o_buildSlice es_31 ze_31 (by decide) ba_31_1, ap_31, builtin_append ni_31, append_some ap_31, srcCells, ag, this]
end
section
variable {cs M1 M2 M3 : List Value} {own : Bool} (n1 n2 n3 : Nat)
theorem l17_3_3 : lpB Try.prog LL ⟨17, 26, 1, none⟩ n17_18 n17_19 ⟨[(5, sl 1 0 3 3), (14, sl 5 0 3 3), (15, iv 3), (16, iv 3)], [.cells cs 1 true own, .cells [sl 2 0 n1 n1, sl 3 0 n2 n2, sl 4 0 n3 n3] 1 false true, .cells M1 1 true true, .cells M2 1 true true, .cells M3 1 true true, .cells [sl 2 0 n1 n1, sl 3 0 n2 n2, sl 4 0 n3 n3] 1 false true], []⟩ = some (.exit 0, ⟨[(5, sl 1 0 3 3)], [.cells cs 1 true own, .cells [sl 2 0 n1 n1, sl 3 0 n2 n2, sl 4 0 n3 n3] 1 false true, .cells M1 1 true true, .cells M2 1 true true, .cells M3 1 true true], []⟩) := by
  rw [lpB_eq]
  simp (maxSteps := 1000000) (disch := first | omega | decide | assumption | simp [scal]) [lenA_sl lk_76, o_indexAddrS es_76, loadA_eq ia_71, o_indexAddrS es_31, ze_31, o_buildSlice es_31 ze_31 (by decide) ba_31_1, ap_31, builtin_append ni_31]
theorem l17_3_2 : lpB Try.prog LL ⟨17, 26, 1, none⟩ n17_18 n17_19 ⟨[(5, sl 1 0 2 2), (14, sl 4 0 3 3), (15, iv 3), (16, iv 2)], [.cells cs 1 true own, .cells [sl 2 0 n1 n1, sl 3 0 n2 n2] 1 false true, .cells M1 1 true true, .cells M2 1 true true, .cells [sl 2 0 n1 n1, sl 3 0 n2 n2, sl 5 0 n3 n3] 1 false true, .cells M3 1 true true], []⟩ = some (.exit 0, ⟨[(5, sl 1 0 3 3)], [.cells cs 1 true own, .cells [sl 2 0 n1 n1, sl 3 0 n2 n2, sl 4 0 n3 n3] 1 false true, .cells M1 1 true true, .cells M2 1 true true, .cells M3 1 true true], []⟩) := by
  have ag := fun hp rd q m => app_g (h := hp) (b := 1) (c := 2) (l := 2) (V := [sl 2 0 n1 n1, sl 3 0 n2 n2]) (v := sl q 0 m m) (fl := false) (rd := rd) rfl (by omega) rfl
  have this := l17_3_3 (cs := cs) (M1 := M1) (M2 := M2) (M3 := M3) (own := own) n1 n2 n3
  simp only [Nat.reduceAdd, List.nil_append, List.cons_append] at ag
  rw [lpB_eq]
  simp (maxSteps := 1000000) (disch := first | omega | decide | assumption | simp [scal]) [lenA_sl lk_76, o_indexAddrS es_76, loadA_eq ia_71, o_indexAddrS es_31, ze_31, o_buildSlice es_31 ze_31 (by decide) ba_31_1, ap_31, builtin_append ni_31, append_some ap_31, srcCells, ag, this]
theorem l17_3_1 : lpB Try.prog LL ⟨17, 26, 1, none⟩ n17_18 n17_19 ⟨[(5, sl 1 0 1 1), (14, sl 3 0 3 3), (15, iv 3), (16, iv 1)], [.cells cs 1 true own, .cells [sl 2 0 n1 n1] 1 false true, .cells M1 1 true true, .cells [sl 2 0 n1 n1, sl 4 0 n2 n2, sl 5 0 n3 n3] 1 false true, .cells M2 1 true true, .cells M3 1 true true], []⟩ = some (.exit 0, ⟨[(5, sl 1 0 3 3)], [.cells cs 1 true own, .cells [sl 2 0 n1 n1, sl 3 0 n2 n2, sl 4 0 n3 n3] 1 false true, .cells M1 1 true true, .cells M2 1 true true, .cells M3 1 true true], []⟩) := by
  have ag := fun hp rd q m => app_g (h := hp) (b := 1) (c := 1) (l := 1) (V := [sl 2 0 n1 n1]) (v := sl q 0 m m) (fl := false) (rd := rd) rfl (by omega) rfl
  have this := l17_3_2 (cs := cs) (M1 := M1) (M2 := M2) (M3 := M3) (own := own) n1 n2 n3
  simp only [Nat.reduceAdd, List.nil_append, List.cons_append] at ag
  rw [lpB_eq]
  simp (maxSteps := 1000000) (disch := first | omega | decide | assumption | simp [scal]) [lenA_sl lk_76, o_indexAddrS es_76, loadA_eq ia_71, o_indexAddrS es_31, ze_31, o_buildSlice es_31 ze_31 (by decide) ba_31_1, ap_31, builtin_append ni_31, append_some ap_31, srcCells, ag, this]
theorem l17_3_0 : lpB Try.prog LL ⟨17, 26, 1, none⟩ n17_18 n17_19 ⟨[(5, sl 1 0 0 0), (14, sl 2 0 3 3), (15, iv 3), (16, iv 0)], [.cells cs 1 true own, .cells [] 1 false true, .cells [sl 3 0 n1 n1, sl 4 0 n2 n2, sl 5 0 n3 n3] 1 false true, .cells M1 1 true true, .cells M2 1 true true, .cells M3 1 true true], []⟩ = some (.exit 0, ⟨[(5, sl 1 0 3 3)], [.cells cs 1 true own, .cells [sl 2 0 n1 n1, sl 3 0 n2 n2, sl 4 0 n3 n3] 1 false true, .cells M1 1 true true, .cells M2 1 true true, .cells M3 1 true true], []⟩) := by
  have ag := fun hp rd q m => app_g (h := hp) (b := 1) (c := 0) (l := 0) (V := []) (v := sl q 0 m m) (fl := false) (rd := rd) rfl (by omega) rfl
  have this := l17_3_1 (cs := cs) (M1 := M1) (M2 := M2) (M3 := M3) (own := own) n1 n2 n3
  simp only [Nat.reduceAdd, List.nil_append, List.cons_append] at ag
  rw [lpB_eq]
  simp (maxSteps := 1000000) (disch := first | omega | decide | assumption | simp [scal]) [lenA_sl lk_76, o_indexAddrS es_76, loadA_eq ia_71, o_indexAddrS es_31, ze_31, o_buildSlice es_31 ze_31 (by decide) ba_31_1, ap_31, builtin_append ni_31, append_some ap_31, srcCells, ag, this]
end
section
variable {cs M1 M2 M3 M4 : List Value} {own : Bool} (n1 n2 n3 n4 : Nat)
theorem l17_4_4 : lpB Try.prog LL ⟨17, 26, 1, none⟩ n17_18 n17_19 ⟨[(5, sl 1 0 4 4), (14, sl 6 0 4 4), (15, iv 4), (16, iv 4)], [.cells cs 1 true own, .cells [sl 2 0 n1 n1, sl 3 0 n2 n2, sl 4 0 n3 n3, sl 5 0 n4 n4] 1 false true, .cells M1 1 true true, .cells M2 1 true true, .cells M3 1 true true, .cells M4 1 true true, .cells [sl 2 0 n1 n1, sl 3 0 n2 n2, sl 4 0 n3 n3, sl 5 0 n4 n4] 1 false true], []⟩ = some (.exit 0, ⟨[(5, sl 1 0 4 4)], [.cells cs 1 true own, .cells [sl 2 0 n1 n1, sl 3 0 n2 n2, sl 4 0 n3 n3, sl 5 0 n4 n4] 1 false true, .cells M1 1 true true, .cells M2 1 true true, .cells M3 1 true true, .cells M4 1 true true], []⟩) := by
  rw [lpB_eq]
  simp (maxSteps := 1000000) (disch := first | omega | decide | assumption | simp [scal]) [lenA_sl lk_76, o_indexAddrS es_76, loadA_eq ia_71, o_indexAddrS es_31, ze_31, o_buildSlice es_31 ze_31 (by decide) ba_31_1, ap_31, builtin_append ni_31]
theorem l17_4_3 : lpB Try.prog LL ⟨17, 26, 1, none⟩ n17_18 n17_19 ⟨[(5, sl 1 0 3 3), (14, sl 5 0 4 4), (15, iv 4), (16, iv 3)], [.cells cs 1 true own, .cells [sl 2 0 n1 n1, sl 3 0 n2 n2, sl 4 0 n3 n3] 1 false true, .cells M1 1 true true, .cells M2 1 true true, .cells M3 1 true true, .cells [sl 2 0 n1 n1, sl 3 0 n2 n2, sl 4 0 n3 n3, sl 6 0 n4 n4] 1 false true, .cells M4 1 true true], []⟩ = some (.exit 0, ⟨[(5, sl 1 0 4 4)], [.cells cs 1 true own, .cells [sl 2 0 n1 n1, sl 3 0 n2 n2, sl 4 0 n3 n3, sl 5 0 n4 n4] 1 false true, .cells M1 1 true true, .cells M2 1 true true, .cells M3 1 true true, .cells M4 1 true true], []⟩) := by
  have ag := fun hp rd q m => app_g (h := hp) (b := 1) (c := 3) (l := 3) (V := [sl 2 0 n1 n1, sl 3 0 n2 n2, sl 4 0 n3 n3]) (v := sl q 0 m m) (fl := false) (rd := rd) rfl (by omega) rfl
  have this := l17_4_4 (cs := cs) (M1 := M1) (M2 := M2) (M3 := M3) (M4 := M4) (own := own) n1 n2 n3 n4
  simp only [Nat.reduceAdd, List.nil_append, List.cons_append] at ag
  rw [lpB_eq]
  simp (maxSteps := 1000000) (disch := first | omega | decide | assumption | simp [scal]) [lenA_sl lk_76, o_indexAddrS es_76, loadA_eq ia_71, o_indexAddrS es_31, ze_31, o_buildSlice es_31 ze_31 (by decide) ba_31_1, ap_31, builtin_append ni_31, append_some ap_31, srcCells, ag, this]
theorem l17_4_2 : lpB Try.prog LL ⟨17, 26, 1, none⟩ n17_18 n17_19 ⟨[(5, sl 1 0 2 2), (14, sl 4 0 4 4), (15, iv 4), (16, iv 2)], [.cells cs 1 true own, .cells [sl 2 0 n1 n1, sl 3 0 n2 n2] 1 false true, .cells M1 1 true true, .cells M2 1 true true, .cells [sl 2 0 n1 n1, sl 3 0 n2 n2, sl 5 0 n3 n3, sl 6 0 n4 n4] 1 false true, .cells M3 1 true true, .cells M4 1 true true], []⟩ = some (.exit 0, ⟨[(5, sl 1 0 4 4)], [.cells cs 1 true own, .cells [sl 2 0 n1 n1, sl 3 0 n2 n2, sl 4 0 n3 n3, sl 5 0 n4 n4] 1 false true, .cells M1 1 true true, .cells M2 1 true true, .cells M3 1 true true, .cells M4 1 true true], []⟩) := by
  have ag := fun hp rd q m => app_g (h := hp) (b := 1) (c := 2) (l := 2) (V := [sl 2 0 n1 n1, sl 3 0 n2 n2]) (v := sl q 0 m m) (fl := false) (rd := rd) rfl (by omega) rfl
  have this := l17_4_3 (cs := cs) (M1 := M1) (M2 := M2) (M3 := M3) (M4 := M4) (own := own) n1 n2 n3 n4
  simp only [Nat.reduceAdd, List.nil_append, List.cons_append] at ag
  rw [lpB_eq]
  simp (maxSteps := 1000000) (disch := first | omega | decide | assumption | simp [scal]) [lenA_sl lk_76, o_indexAddrS es_76, loadA_eq ia_71, o_indexAddrS es_31, ze_31, o_buildSlice es_31 ze_31 (by decide) ba_31_1, ap_31, builtin_append ni_31, append_some ap_31, srcCells, ag, this]
theorem l17_4_1 : lpB Try.prog LL ⟨17, 26, 1, none⟩ n17_18 n17_19 ⟨[(5, sl 1 0 1 1), (14, sl 3 0 4 4), (15, iv 4), (16, iv 1)], [.cells cs 1 true own, .cells [sl 2 0 n1 n1] 1 false true, .cells M1 1 true true, .cells [sl 2 0 n1 n1, sl 4 0 n2 n2, sl 5 0 n3 n3, sl 6 0 n4 n4] 1 false true, .cells M2 1 true true, .cells M3 1 true true, .cells M4 1 true true], []⟩ = some (.exit 0, ⟨[(5, sl 1 0 4 4)], [.cells cs 1 true own, .cells [sl 2 0 n1 n1, sl 3 0 n2 n2, sl 4 0 n3 n3, sl 5 0 n4 n4] 1 false true, .cells M1 1 true true, .cells M2 1 true true, .cells M3 1 true true, .cells M4 1 true true], []⟩) := by
  have ag := fun hp rd q m => app_g (h := hp) (b := 1) (c := 1) (l := 1) (V := [sl 2 0 n1 n1]) (v := sl q 0 m m) (fl := false) (rd := rd) rfl (by omega) rfl
  have this := l17_4_2 (cs := cs) (M1 := M1) (M2 := M2) (M3 := M3) (M4 := M4) (own := own) n1 n2 n3 n4
  simp only [Nat.reduceAdd, List.nil_append, List.cons_append] at ag
  rw [lpB_eq]
  simp (maxSteps := 1000000) (disch := first | omega | decide | assumption | simp [scal]) [lenA_sl lk_76, o_indexAddrS es_76, loadA_eq ia_71, o_indexAddrS es_31, ze_31, o_buildSlice es_31 ze_31 (by decide) ba_31_1, ap_31, builtin_append ni_31, append_some ap_31, srcCells, ag, this]
theorem l17_4_0 : lpB Try.prog LL ⟨17, 26, 1, none⟩ n17_18 n17_19 ⟨[(5, sl 1 0 0 0), (14, sl 2 0 4 4), (15, iv 4), (16, iv 0)], [.cells cs 1 true own, .cells [] 1 false true, .cells [sl 3 0 n1 n1, sl 4 0 n2 n2, sl 5 0 n3 n3, sl 6 0 n4 n4] 1 false true, .cells M1 1 true true, .cells M2 1 true true, .cells M3 1 true true, .cells M4 1 true true], []⟩ = some (.exit 0, ⟨[(5, sl 1 0 4 4)], [.cells cs 1 true own, .cells [sl 2 0 n1 n1, sl 3 0 n2 n2, sl 4 0 n3 n3, sl 5 0 n4 n4] 1 false true, .cells M1 1 true true, .cells M2 1 true true, .cells M3 1 true true, .cells M4 1 true true], []⟩) := by
  have ag := fun hp rd q m => app_g (h := hp) (b := 1) (c := 0) (l := 0) (V := []) (v := sl q 0 m m) (fl := false) (rd := rd) rfl (by omega) rfl
  have this := l17_4_1 (cs := cs) (M1 := M1) (M2 := M2) (M3 := M3) (M4 := M4) (own := own) n1 n2 n3 n4
  simp only [Nat.reduceAdd, List.nil_append, List.cons_append] at ag
  rw [lpB_eq]
  simp (maxSteps := 1000000) (disch := first | omega | decide | assumption | simp [scal]) [lenA_sl lk_76, o_indexAddrS es_76, loadA_eq ia_71, o_indexAddrS es_31, ze_31, o_buildSlice es_31 ze_31 (by decide) ba_31_1, ap_31, builtin_append ni_31, append_some ap_31, srcCells, ag, this]
end
/-- the core that is told: nil, if a polynomial is none -/
def corR (p : List Int) : List Int := if chkE p = 0 then cor p else []
def stuR (p : List Int) : List (List Int) := if chkE p = 0 then stu p else []
section
variable (b c : Nat) {cs : List Value} {own : Bool} {p : List Int} {h : List Blk} (hb : h[b]? = some (.cells cs 1 true own)) (hp : PoC cs p)
include hb hp
theorem k15 (hl : p.length ≤ 4000000000) (hB : chkE p = 0 → corB p = true) : callH LL 15 [sl b 0 p.length c] h = some ⟨.tuple #[sl h.length 0 (corR p).length (corR p).length, iv (chkE p)], h ++ [zB (corR p)], [b], []⟩ := by
  refine callN_1 rfl hb noIdB_flat (args' := [sl 0 0 p.length c]) (by simp [renV, dep, optAll, idx, nbeq]) (v := .tuple #[sl 1 0 (corR p).length (corR p).length, iv (chkE p)]) (news := [zB (corR p)]) (go (by decide) ?_) (by intro blk hb; simp only [List.mem_singleton] at hb; subst hb; exact noIdB_flat) (by simp [renV, dep, optAll])
  have a21 := fun R => k21 0 c (h := .cells cs 1 true own :: R) rfl hp hl
  unfold corR
  by_cases hE : chkE p = 0
  · have a41 := k41 0 c (h := [.cells cs 1 true own]) rfl hp (hB hE)
    rw [if_pos hE, hE]
    rw [hE] at a21
    generalize cor p = C at *
    simp only [zB] at a41 ⊢
    generalize zm C = M at *
    clear hl hE hB hp
    rw [run15 _ _ _ (by simp)]
    simp (maxSteps := 1000000) (disch := first | omega | decide | assumption | simp [scal]) [a21, a41]
  · rw [if_neg hE]
    generalize chkE p = e at *
    clear hl hB hp
    simp only [zB, show zm [] = [] from rfl, List.length_nil]
    rw [run15 _ _ _ (by simp)]
    simp (maxSteps := 1000000) (disch := first | omega | decide | assumption | simp [scal]) [a21, hE]
theorem k17 (hl : p.length ≤ 4000000000) (hB : chkE p = 0 → stuB p = true) : callH LL 17 [sl b 0 p.length c] h = some ⟨.tuple #[sl h.length 0 (stuR p).length (stuR p).length, iv (chkE p)], h ++ stBk h.length (stuR p), [b], []⟩ := by
  have a21 := fun R => k21 0 c (h := .cells cs 1 true own :: R) rfl hp hl
  unfold stuR
  by_cases hE : chkE p = 0
  · have a43 := k43 0 c (h := [.cells cs 1 true own]) rfl hp (hB hE)
    rw [if_pos hE, hE]
    rw [hE] at a21
    rcases stu_cases (hB hE) with ⟨q1, q2, hq⟩ | ⟨q1, q2, q3, hq⟩ | ⟨q1, q2, q3, q4, hq⟩
    · rw [hq] at a43 ⊢
      refine callP_1 rfl hb noIdB_flat (args' := [sl 0 0 p.length c]) (by simp [renV, dep, optAll, idx, nbeq]) (v := .tuple #[sl 1 0 2 2, iv 0]) (news := stBk 1 [q1, q2]) (go (by decide) ?_)
        (by simp [stBk, stC, zB, optAll, renB, renL, renL_eq, renV_sl, dep, nblt]) (by simp [renV, dep, optAll])
      have lp := l17_2_0 (cs := cs) (own := own) (M1 := zm q1) (M2 := zm q2) q1.length q2.length
      simp only [stBk, stC, zB, List.map_cons, List.map_nil, List.length_cons, List.length_nil, Nat.reduceAdd, List.cons_append, List.nil_append] at a43 ⊢
      clear hl hE hB hp hq
      rw [run17 _ _ _ (by simp)]
      simp (maxSteps := 1000000) (disch := first | omega | decide | assumption | simp [scal]) [lenA_sl lk_76, o_indexAddrS es_76, loadA_eq ia_71, o_indexAddrS es_31, ze_31, o_buildSlice es_31 ze_31 (by decide) ba_31_1, ap_31, builtin_append ni_31, a21, a43, lp]
    · rw [hq] at a43 ⊢
      refine callP_1 rfl hb noIdB_flat (args' := [sl 0 0 p.length c]) (by simp [renV, dep, optAll, idx, nbeq]) (v := .tuple #[sl 1 0 3 3, iv 0]) (news := stBk 1 [q1, q2, q3]) (go (by decide) ?_)
        (by simp [stBk, stC, zB, optAll, renB, renL, renL_eq, renV_sl, dep, nblt]) (by simp [renV, dep, optAll])
      have lp := l17_3_0 (cs := cs) (own := own) (M1 := zm q1) (M2 := zm q2) (M3 := zm q3) q1.length q2.length q3.length
      simp only [stBk, stC, zB, List.map_cons, List.map_nil, List.length_cons, List.length_nil, Nat.reduceAdd, List.cons_append, List.nil_append] at a43 ⊢
      clear hl hE hB hp hq
      rw [run17 _ _ _ (by simp)]
      simp (maxSteps := 1000000) (disch := first | omega | decide | assumption | simp [scal]) [lenA_sl lk_76, o_indexAddrS es_76, loadA_eq ia_71, o_indexAddrS es_31, ze_31, o_buildSlice es_31 ze_31 (by decide) ba_31_1, ap_31, builtin_append ni_31, a21, a43, lp]
    · rw [hq] at a43 ⊢
      refine callP_1 rfl hb noIdB_flat (args' := [sl 0 0 p.length c]) (by simp [renV, dep, optAll, idx, nbeq]) (v := .tuple #[sl 1 0 4 4, iv 0]) (news := stBk 1 [q1, q2, q3, q4]) (go (by decide) ?_)
        (by simp [stBk, stC, zB, optAll, renB, renL, renL_eq, renV_sl, dep, nblt]) (by simp [renV, dep, optAll])
      have lp := l17_4_0 (cs := cs) (own := own) (M1 := zm q1) (M2 := zm q2) (M3 := zm q3) (M4 := zm q4) q1.length q2.length q3.length q4.length
      simp only [stBk, stC, zB, List.map_cons, List.map_nil, List.length_cons, List.length_nil, Nat.reduceAdd, List.cons_append, List.nil_append] at a43 ⊢
      clear hl hE hB hp hq
      rw [run17 _ _ _ (by simp)]
      simp (maxSteps := 1000000) (disch := first | omega | decide | assumption | simp [scal]) [lenA_sl lk_76, o_indexAddrS es_76, loadA_eq ia_71, o_indexAddrS es_31, ze_31, o_buildSlice es_31 ze_31 (by decide) ba_31_1, ap_31, builtin_append ni_31, a21, a43, lp]
  · rw [if_neg hE]
    refine callP_1 rfl hb noIdB_flat (args' := [sl 0 0 p.length c]) (by simp [renV, dep, optAll, idx, nbeq]) (v := .tuple #[sl 1 0 0 0, iv (chkE p)]) (news := stBk 1 []) (go (by decide) ?_)
      (by simp [stBk, stC, zB, optAll, renB, renL, renL_eq, renV_sl, dep, nblt]) (by simp [renV, dep, optAll])
    generalize chkE p = e at *
    clear hl hB hp
    simp only [stBk, stC, List.map_nil]
    rw [run17 _ _ _ (by simp)]
    simp (maxSteps := 1000000) (disch := first | omega | decide | assumption | simp [scal]) [lenA_sl lk_76, o_indexAddrS es_76, loadA_eq ia_71, o_indexAddrS es_31, ze_31, o_buildSlice es_31 ze_31 (by decide) ba_31_1, ap_31, builtin_append ni_31, a21, hE]
theorem k13o (hl : p.length ≤ 60) (hE : chkE p = 0) (h0 : 0 < p.length) (x y : Int) (hg : goodR x y = true) (hB : evB x y p.reverse 0 1 = true) : callH LL 13 [sl b 0 p.length c, .agg #[iv x, iv y]] h = some ⟨.tuple #[iv (sgP p x y), iv 0], h, [b], []⟩ := by
  refine callH_1 rfl hb noIdB_flat (args' := [sl 0 0 p.length c, .agg #[iv x, iv y]]) (by simp [renV, dep, optAll, idx, nbeq]) (go (by decide) ?_) fun _ => rfl
  have a21 := fun R => k21 0 c (h := .cells cs 1 true own :: R) rfl hp (by omega)
  have a38 := fun R => k38 0 c (h := .cells cs 1 true own :: R) rfl hp h0 hl x y hB
  have a37 := fun R => k37 x y R
  rw [hE] at a21
  rw [hg] at a37
  generalize sgP p x y = s at *
  clear hl hE hB hp h0 hg
  rw [run13 _ _ _ (by simp)]
  simp (maxSteps := 1000000) (disch := first | omega | decide | assumption | simp [scal]) [loadA_eq ia_24, a21, a37, a38]
theorem k13e (hl : p.length ≤ 4000000000) (hE : chkE p ≠ 0) (x y : Int) : callH LL 13 [sl b 0 p.length c, .agg #[iv x, iv y]] h = some ⟨.tuple #[iv 0, iv (chkE p)], h, [b], []⟩ := by
  refine callH_1 rfl hb noIdB_flat (args' := [sl 0 0 p.length c, .agg #[iv x, iv y]]) (by simp [renV, dep, optAll, idx, nbeq]) (go (by decide) ?_) fun _ => rfl
  have a21 := fun R => k21 0 c (h := .cells cs 1 true own :: R) rfl hp hl
  generalize chkE p = e at *
  clear hl hp
  rw [run13 _ _ _ (by simp)]
  simp (maxSteps := 1000000) (disch := first | omega | decide | assumption | simp [scal]) [loadA_eq ia_24, a21, hE]
theorem k13g (hl : p.length ≤ 4000000000) (hE : chkE p = 0) (x y : Int) (hg : goodR x y = false) : callH LL 13 [sl b 0 p.length c, .agg #[iv x, iv y]] h = some ⟨.tuple #[iv 0, iv 1], h, [b], []⟩ := by
  refine callH_1 rfl hb noIdB_flat (args' := [sl 0 0 p.length c, .agg #[iv x, iv y]]) (by simp [renV, dep, optAll, idx, nbeq]) (go (by decide) ?_) fun _ => rfl
  have a21 := fun R => k21 0 c (h := .cells cs 1 true own :: R) rfl hp hl
  have a37 := fun R => k37 x y R
  rw [hE] at a21
  rw [hg] at a37
  clear hl hE hp hg
  rw [run13 _ _ _ (by simp)]
  simp (maxSteps := 1000000) (disch := first | omega | decide | assumption | simp [scal]) [loadA_eq ia_24, a21, a37]
end
end Go.Proofs.Ytkmompbfcgjgmaa.nt
namespace Go.Proofs.Ytkmompbfcgjgmaa.nt
open Go.GE
set_option linter.unusedVariables false
set_option linter.unusedSimpArgs false
set_option linter.unusedSectionVars false
set_option maxRecDepth 100000
set_option maxHeartbeats 4000000
attribute [local simp] runOps_nil runOps_cons runOpsF_nil runOpsF_cons fstS_some fstF_some opStep_eq want_none oStep_true oStep_false fin_pure fin_read fin_alloc fin_write storeB wrN cellV addWr o_move o_assign o_pick o_alloc o_box o_load o_store o_nilCheck o_bin o_un o_extract o_callV o_callB o_callI callV_f callV_y callV_fc o_makeFunc partsA Instr.fill builtin_len builtin_max2 bin_add bin_sub bin_mul bin_quo bin_rem bin_lss bin_leq bin_gtr bin_geq bin_eql bin_neq un_neg un_not bin_shr bin_shl wrap_u64_id opd opds optAll putO nbeq nblt constOk isC ops sub cl cr co bodyOf thenS_normal thenS_ret thenS_exit thenS_goto afterN_normal afterN_ret afterN_exit afterN_goto condS_true condS_false blockS_normal blockS_ret blockS_exit blockS_goto headS normS normK_eq fixS_nil fixS_cons fix1 fixV emptyB keepO_nil keepO_cons roundC_normal roundC_exit roundC_ret roundC_goto sweep_eq sweepD rnm pickR pickW rootsB ptrT renT ptrFn renFn ptrB_flat ptrB_non renB_flat renB_non plainS_some drawS_some fpsOk disj unord range' dropTo enumT undef wrap_i64_id Value.cells mkCells ptrTo scal cellsAt rdN endS_ret resultsA Option.bind_some tupV finish reachN dep ptrL_eq ptrL renL_eq renL ptrV_bool ptrV_int ptrV_string ptrV_nilFunc ptrV_nilIface ptrV_nilPtr ptrV_ptr ptrV_nilSl ptrV_sl ptrV_iface ptrV_agg ptrV_tuple ptrV_func renV_bool renV_int renV_string renV_nilFunc renV_nilIface renV_nilPtr renV_ptr renV_nilSl renV_sl renV_iface renV_agg renV_tuple renV_func gotoS_goto gotoS_normal gotoS_exit gotoS_ret skip_seq sliceE bnd bndHi intOf optOpd keepT_nil keepT_cons keepC_t keepC_f lk_nil lk_cons lkC_t lkC_f has_nil has_cons hasC_t hasC_f rep_nil rep_cons repC_t repC_f put_eq putC_t putC_f mem_nil mem_cons memC_t memC_f idx_nil idx_cons idxC_t idxC_f reach_nil reachP_cons reachQ_t reachQ_f ptrB_dead renB_dead ins_eq
attribute [local simp] n64_1s n64_4s n64_7s n64_8s n64_6s n64_9s n64_5s n64_3s n64_12s n64_15s n64_16s n64_14s n64_17s n64_13s n64_11s n64_19s n64_20s n64_18s n64_10s n64_2s n64_0s Try.f64 n69_1s n69_3s n69_6s n69_11s n69_13s n69_14s n69_12s n69_10s n69_17s n69_16s n69_18s n69_15s n69_9s n69_8s n69_8g n69_7s n69_5s n69_20s n69_21s n69_19s n69_4s n69_2s n69_0s Try.f69 n80_1s n80_3s n80_9s n80_11s n80_12s n80_10s n80_8s n80_14s n80_13s n80_7s n80_6s n80_6g n80_5s n80_16s n80_17s n80_15s n80_4s n80_2s n80_0s Try.f80 n72_1s n72_3s n72_6s n72_11s n72_13s n72_14s n72_12s n72_10s n72_19s n72_21s n72_22s n72_20s n72_18s n72_23s n72_17s n72_16s n72_24s n72_15s n72_9s n72_8s n72_8g n72_7s n72_5s n72_26s n72_29s n72_34s n72_36s n72_37s n72_35s n72_33s n72_40s n72_39s n72_41s n72_38s n72_32s n72_31s n72_31g n72_30s n72_28s n72_43s n72_44s n72_42s n72_27s n72_25s n72_4s n72_2s n72_0s Try.f72 n55_1s n55_3s n55_6s n55_11s n55_13s n55_14s n55_12s n55_10s n55_17s n55_16s n55_18s n55_15s n55_9s n55_8s n55_8g n55_7s n55_5s n55_20s n55_21s n55_19s n55_4s n55_2s n55_0s Try.f55
theorem app_w {h : List Blk} {b c l : Nat} {L : List Int} {x : Int} {rd : List Nat} (hl : L.length = l) (h60 : l ≤ 60) : appS h 1 8 b 0 l c (some (.cells (zm L) 1 true true)) (some (1, [iv x], true, rd)) = some ⟨.slice (some ⟨h.length, 0, none⟩) (l + 1) (l + 1), h.set b .dead ++ [.cells (zm L ++ [iv x]) 1 true true], b :: rd, [b]⟩ := by
  have hr := rdN_all (zm L) l 0 (by rw [zm_len]; omega)
  simp only [appS, Nat.mul_one, hr, List.drop_zero]
  rw [if_pos (by refine ⟨by omega, by omega, trivial, rfl⟩)]
  rfl
theorem zm_take {L : List Int} {i : Nat} (h : i < L.length) : zm (L.take (i + 1)) = zm (L.take i) ++ [iv (L.getD i 0)] := by
  rw [List.take_add_one, zm_app, List.getElem?_eq_getElem h, List.getD_eq_getElem?_getD, List.getElem?_eq_getElem h]
  rfl
theorem r64 (x : Int) (h : List Blk) : callH LL 64 [iv x] h = some ⟨iv (sg x), h, [], []⟩ := by
  refine callH_plain (go (by decide) ?_) rfl rfl
  rw [run64 _ _ _ (by simp)]
  unfold sg
  by_cases h1 : 0 < x
  · simp (maxSteps := 1000000) (disch := first | omega | decide | assumption | simp [scal]) [h1]
  · by_cases h2 : x < 0
    · simp (maxSteps := 1000000) (disch := first | omega | decide | assumption | simp [scal]) [h1, h2]
    · simp (maxSteps := 1000000) (disch := first | omega | decide | assumption | simp [scal]) [h1, h2]
theorem q69 (c : Nat) {cs : List Value} {own : Bool} {p : List Int} (hc : PoC cs p) (hn : p.length ≤ 60) (m : Int) (hs : ∀ i, i < p.length → Sm (p.getD i 0 * m)) : ∀ (q i : Nat), i + q = p.length →
    lpB Try.prog LL ⟨69, 23, 1, none⟩ n69_8 n69_9 ⟨[(0, sl 0 0 p.length c), (1, iv m), (5, sl 1 0 i i), (6, iv i)], [.cells cs 1 true own, .cells (zm ((tms p m).take i)) 1 true true], []⟩ =
      some (.exit 0, ⟨[(5, sl 1 0 p.length p.length)], [.cells cs 1 true own, zB (tms p m)], []⟩) := by
  intro q
  induction q with
  | zero =>
    intro i hi
    obtain rfl : i = p.length := by omega
    rw [List.take_of_length_le (by rw [tms_len]; exact Nat.le_refl _)]
    simp only [zB]
    generalize zm (tms p m) = X
    rw [lpB_eq]
    simp (maxSteps := 1000000) (disch := first | omega | decide | assumption | simp [scal]) [lenA_sl lk_22, o_indexAddrS es_22, loadA_eq ia_3, ze_22, o_buildSlice es_22 ze_22 (by decide) ba_22_1, ap_22, builtin_append ni_22]
  | succ q ih =>
    intro i hi
    have e0 : i < p.length := by omega
    have e1 : (i : Int) < p.length := by omega
    have this := ih (i + 1) (by omega)
    have p1 := hc i e0
    have w := (hs i e0).w
    have hl : ((tms p m).take i).length = i := by rw [List.length_take, tms_len]; omega
    rw [zm_take (by rw [tms_len]; exact e0), tms_gd] at this
    have ag := fun hp c2 rd => app_w (h := hp) (b := 1) (c := c2) (l := i) (L := (tms p m).take i) (x := p.getD i 0 * m) (rd := rd) hl (by omega)
    clear ih hs hc
    simp only [cast1] at this
    simp only [zB] at this ⊢
    generalize zm ((tms p m).take i) = R at *
    generalize p.getD i 0 = x at *
    generalize zm (tms p m) = X at *
    rw [lpB_eq]
    simp (maxSteps := 1000000) (disch := first | omega | decide | assumption | simp [scal]) [lenA_sl lk_22, o_indexAddrS es_22, loadA_eq ia_3, ze_22, o_buildSlice es_22 ze_22 (by decide) ba_22_1, ap_22, builtin_append ni_22, e0, e1, p1, w, append_some ap_22, srcCells, ag, this]
section
variable (b c : Nat) {cs : List Value} {own : Bool} {p : List Int} {h : List Blk} (hb : h[b]? = some (.cells cs 1 true own)) (hc : PoC cs p)
include hb hc
theorem r69 (hn : p.length ≤ 60) (m : Int) (hs : ∀ i, i < p.length → Sm (p.getD i 0 * m)) : callH LL 69 [sl b 0 p.length c, iv m] h = some ⟨sl h.length 0 p.length p.length, h ++ [zB (tms p m)], [b], []⟩ := by
  refine callN_1 rfl hb noIdB_flat (args' := [sl 0 0 p.length c, iv m]) (by simp [renV, dep, optAll, idx, nbeq]) (v := sl 1 0 p.length p.length) (news := [zB (tms p m)]) (go (by decide) ?_) (by intro blk hb; simp only [List.mem_singleton] at hb; subst hb; exact noIdB_flat) (by simp [renV, dep])
  have this := q69 c (own := own) hc hn m hs p.length 0 (by omega)
  simp only [List.take_zero, zm_nil, zB, Int.natCast_zero] at this ⊢
  generalize zm _ = X at *
  rw [run69 _ _ _ (by simp)]
  simp (maxSteps := 1000000) (disch := first | omega | decide | assumption | simp [scal]) [lenA_sl lk_22, o_indexAddrS es_22, loadA_eq ia_3, ze_22, o_buildSlice es_22 ze_22 (by decide) ba_22_1, ap_22, builtin_append ni_22, this]
end
theorem q80 : ∀ (a d : Nat), a < 9223372036854775808 → d < 9223372036854775808 →
    lpB Try.prog LL ⟨80, 20, 0, none⟩ n80_6 n80_7 ⟨[(0, iv d), (1, iv a)], [], []⟩ = some (.exit 0, ⟨[(0, iv (Nat.gcd a d : Nat))], [], []⟩) := by
  intro a
  induction a using Nat.strongRecOn with
  | _ a ih =>
    intro d ha hd
    by_cases h0 : a = 0
    · subst h0
      rw [Nat.gcd_zero_left]
      simp only [Int.natCast_zero]
      rw [lpB_eq]
      simp (maxSteps := 1000000) (disch := first | omega | decide | assumption | simp [scal])
    · have hm : d % a < a := Nat.mod_lt _ (by omega)
      have this := ih (d % a) hm a (by omega) ha
      rw [← Nat.gcd_rec] at this
      have e1 : 0 < a := by omega
      have e2 : (0 : Int) < a := by omega
      have e3 : ¬ (a : Int) = 0 := by omega
      have e4 : Int.tmod (d : Int) (a : Int) = ((d % a : Nat) : Int) := rfl
      clear ih
      generalize ((d % a : Nat) : Int) = r at *
      generalize Nat.gcd a d = g at *
      rw [lpB_eq]
      simp (maxSteps := 1000000) (disch := first | omega | decide | assumption | simp [scal]) [e1, e2, e3, e4, h0, this]
theorem r80 (d : Nat) (y : Int) (hd : d < 9223372036854775808) (hy : -9223372036854775808 < y ∧ y < 9223372036854775808) (h : List Blk) : callH LL 80 [iv d, iv y] h = some ⟨iv (Nat.gcd d y.natAbs : Nat), h, [], []⟩ := by
  refine callH_plain (go (by decide) ?_) rfl rfl
  have lp := q80 y.natAbs d (by omega) hd
  rw [Nat.gcd_comm] at lp
  have w1 : IntKind.i64.wrap (-(d : Int)) = -(d : Int) := wrap_i64_id (by omega) (by omega)
  have w2 : IntKind.i64.wrap (-y) = -y := wrap_i64_id (by omega) (by omega)
  generalize ((Nat.gcd d y.natAbs : Nat) : Int) = g at *
  rw [run80 _ _ _ (by simp)]
  have m1 : ¬ (d : Int) < -(d : Int) := by omega
  by_cases h2 : -y > y
  · have h2' : y < -y := h2
    rw [show ((y.natAbs : Nat) : Int) = -y by omega] at lp
    simp (maxSteps := 1000000) (disch := first | omega | decide | assumption | simp [scal]) [w1, w2, m1, h2', lp]
  · have h2' : ¬ y < -y := h2
    rw [show ((y.natAbs : Nat) : Int) = y by omega] at lp
    simp (maxSteps := 1000000) (disch := first | omega | decide | assumption | simp [scal]) [w1, w2, m1, h2', lp]
section
variable (c : Nat) {cs : List Value} {own : Bool} {p : List Int} (hc : PoC cs p) (hn : p.length ≤ 60) (hs : ∀ x, x ∈ p → -9223372036854775808 < x ∧ x < 9223372036854775808)
include hc hn hs
theorem q72 : ∀ (q i k d : Nat), i + q = p.length → k ≤ i → d < 9223372036854775808 →
    lpB Try.prog LL ⟨72, 42, 1, none⟩ n72_8 n72_9 ⟨[(0, sl 0 0 p.length c), (3, iv k), (4, iv d), (5, iv i)], [.cells cs 1 true own], []⟩ =
      some (.exit 0, ⟨[(0, sl 0 0 p.length c), (3, iv (dgL p q i k : Nat)), (4, iv (gcL p q i d : Nat))], [.cells cs 1 true own], []⟩) := by
  intro q
  induction q with
  | zero =>
    intro i k d hi hk hd
    obtain rfl : i = p.length := by omega
    simp only [gcL, dgL]
    rw [lpB_eq]
    simp (maxSteps := 1000000) (disch := first | omega | decide | assumption | simp [scal]) [lenA_sl lk_22, o_indexAddrS es_22, loadA_eq ia_3, ze_22, o_buildSlice es_22 ze_22 (by decide) ba_22_1, ap_22, builtin_append ni_22]
  | succ q ih =>
    intro i k d hi hk hd
    have e0 : i < p.length := by omega
    have e1 : (i : Int) < p.length := by omega
    have p1 := hc i e0
    have hx : p.getD i 0 = p[i] := by simp [e0]
    have hb := hs (p.getD i 0) (by rw [hx]; exact List.getElem_mem _)
    have hg : Nat.gcd d (p.getD i 0).natAbs < 9223372036854775808 := by
      by_cases hz : d = 0
      · subst hz; rw [Nat.gcd_zero_left]; omega
      · have := Nat.gcd_le_left (n := (p.getD i 0).natAbs) (show 0 < d by omega); omega
    have a80 := fun R => r80 d (p.getD i 0) hd hb R
    simp only [gcL, dgL]
    by_cases h0 : p.getD i 0 = 0
    · rw [if_pos h0]
      have this := ih (i + 1) k (Nat.gcd d (p.getD i 0).natAbs) (by omega) (by omega) hg
      rw [h0] at p1 a80 this ⊢
      simp only [cast1] at this
      clear ih hs hb hx hg h0 hc
      simp only [Int.natAbs_zero, Int.natCast_zero] at a80 this ⊢
      generalize gcL p q (i + 1) _ = Z1 at *
      generalize dgL p q (i + 1) _ = Z2 at *
      generalize Nat.gcd d 0 = g at *
      rw [lpB_eq]
      simp (maxSteps := 1000000) (disch := first | omega | decide | assumption | simp [scal]) [lenA_sl lk_22, o_indexAddrS es_22, loadA_eq ia_3, ze_22, o_buildSlice es_22 ze_22 (by decide) ba_22_1, ap_22, builtin_append ni_22, e0, e1, p1, a80, this]
    · rw [if_neg h0]
      have this := ih (i + 1) (i + 1) (Nat.gcd d (p.getD i 0).natAbs) (by omega) (by omega) hg
      simp only [cast1] at this
      generalize gcL p q (i + 1) _ = Z1 at *
      generalize dgL p q (i + 1) _ = Z2 at *
      generalize Nat.gcd d _ = g at *
      generalize p.getD i 0 = x at *
      clear ih hs hx hg hc
      rw [lpB_eq]
      simp (maxSteps := 1000000) (disch := first | omega | decide | assumption | simp [scal]) [lenA_sl lk_22, o_indexAddrS es_22, loadA_eq ia_3, ze_22, o_buildSlice es_22 ze_22 (by decide) ba_22_1, ap_22, builtin_append ni_22, e0, e1, p1, h0, a80, this]
theorem q72b (k d : Nat) (hk : k ≤ p.length) (hd : 0 < d) : ∀ (q i : Nat), i + q = k →
    lpB Try.prog LL ⟨72, 42, 1, none⟩ n72_31 n72_32 ⟨[(0, sl 0 0 p.length c), (3, iv k), (4, iv d), (6, sl 1 0 i i), (7, iv i)], [.cells cs 1 true own, .cells (zm (((List.range k).map fun i => (p.getD i 0).tdiv d).take i)) 1 true true], []⟩ =
      some (.exit 2, ⟨[(6, sl 1 0 k k)], [.cells cs 1 true own, zB ((List.range k).map fun i => (p.getD i 0).tdiv d)], []⟩) := by
  intro q
  induction q with
  | zero =>
    intro i hi
    obtain rfl : i = k := by omega
    rw [List.take_of_length_le (by simp)]
    simp only [zB]
    generalize zm _ = X
    rw [lpB_eq]
    simp (maxSteps := 1000000) (disch := first | omega | decide | assumption | simp [scal]) [lenA_sl lk_22, o_indexAddrS es_22, loadA_eq ia_3, ze_22, o_buildSlice es_22 ze_22 (by decide) ba_22_1, ap_22, builtin_append ni_22]
  | succ q ih =>
    intro i hi
    have e0 : i < k := by omega
    have e1 : (i : Int) < k := by omega
    have e2 : i < p.length := by omega
    have e2' : (i : Int) < p.length := by omega
    have this := ih (i + 1) (by omega)
    have p1 := hc i e2
    have hx : p.getD i 0 = p[i] := by simp [e2]
    have hb := hs (p.getD i 0) (by rw [hx]; exact List.getElem_mem _)
    have hq : (Int.tdiv (p.getD i 0) d).natAbs ≤ (p.getD i 0).natAbs := by
      rw [Int.natAbs_tdiv]; exact Nat.div_le_self _ _
    have w : IntKind.i64.wrap ((p.getD i 0).tdiv d) = (p.getD i 0).tdiv d := wrap_i64_id (by omega) (by omega)
    have hgd : (((List.range k).map fun i => (p.getD i 0).tdiv d)).getD i 0 = (p.getD i 0).tdiv d := by simp [List.getD_eq_getElem?_getD, e0]
    have hl : ((((List.range k).map fun i => (p.getD i 0).tdiv d)).take i).length = i := by rw [List.length_take]; simp; omega
    rw [zm_take (by simp; exact e0), hgd] at this
    have ag := fun hp c2 rd => app_w (h := hp) (b := 1) (c := c2) (l := i) (L := ((List.range k).map fun i => (p.getD i 0).tdiv d).take i) (x := (p.getD i 0).tdiv d) (rd := rd) hl (by omega)
    have e3 : ¬ (d : Int) = 0 := by omega
    have e4 : ¬ d = 0 := by omega
    clear ih hgd hs hb hq hc
    simp only [cast1] at this
    simp only [zB] at this ⊢
    generalize zm (((List.range k).map fun i => (p.getD i 0).tdiv d).take i) = R at *
    generalize zm ((List.range k).map fun i => (p.getD i 0).tdiv d) = X at *
    generalize p.getD i 0 = x at *
    rw [lpB_eq]
    simp (maxSteps := 1000000) (disch := first | omega | decide | assumption | simp [scal]) [lenA_sl lk_22, o_indexAddrS es_22, loadA_eq ia_3, ze_22, o_buildSlice es_22 ze_22 (by decide) ba_22_1, ap_22, builtin_append ni_22, e0, e1, e2, e2', e3, e4, p1, w, append_some ap_22, srcCells, ag, this]
end
section
variable (b c : Nat) {cs : List Value} {own : Bool} {p : List Int} {h : List Blk} (hb : h[b]? = some (.cells cs 1 true own)) (hc : PoC cs p)
include hb hc
theorem r72 (hn : p.length ≤ 60) (hs : ∀ x, x ∈ p → -9223372036854775808 < x ∧ x < 9223372036854775808) : callH LL 72 [sl b 0 p.length c] h = some ⟨sl h.length 0 (dgP p) (dgP p), h ++ [zB (lea p)], [b], []⟩ := by
  refine callN_1 rfl hb noIdB_flat (args' := [sl 0 0 p.length c]) (by simp [renV, dep, optAll, idx, nbeq]) (v := sl 1 0 (dgP p) (dgP p)) (news := [zB (lea p)]) (go (by decide) ?_) (by intro blk hb; simp only [List.mem_singleton] at hb; subst hb; exact noIdB_flat) (by simp [renV, dep])
  have l1 := q72 c (own := own) hc hn hs p.length 0 0 0 (by omega) (by omega) (by omega)
  have hdl := dgP_le (p := p)
  rw [show gcL p p.length 0 0 = gcP p from rfl, show dgL p p.length 0 0 = dgP p from rfl] at l1
  unfold lea
  by_cases h0 : dgP p = 0
  · rw [h0] at l1 ⊢
    simp only [zB, Int.natCast_zero, List.range_zero, List.map_nil, zm_nil] at l1 ⊢
    generalize gcP p = d at *
    rw [run72 _ _ _ (by simp)]
    have l3 : lpB Try.prog LL ⟨72, 42, 1, none⟩ n72_31 n72_32 ⟨[(0, sl 0 0 p.length c), (3, iv 0), (4, iv d), (6, sl 1 0 0 0), (7, iv 0)], [.cells cs 1 true own, .cells [] 1 true true], []⟩ = some (.exit 2, ⟨[(6, sl 1 0 0 0)], [.cells cs 1 true own, .cells [] 1 true true], []⟩) := by
      rw [lpB_eq]
      simp (maxSteps := 1000000) (disch := first | omega | decide | assumption | simp [scal]) [lenA_sl lk_22, o_indexAddrS es_22, loadA_eq ia_3, ze_22, o_buildSlice es_22 ze_22 (by decide) ba_22_1, ap_22, builtin_append ni_22]
    simp (maxSteps := 1000000) (disch := first | omega | decide | assumption | simp [scal]) [lenA_sl lk_22, o_indexAddrS es_22, loadA_eq ia_3, ze_22, o_buildSlice es_22 ze_22 (by decide) ba_22_1, ap_22, builtin_append ni_22, l1, l3]
  · have hd := gcP_pos (p := p) (by omega)
    have l2 := q72b c (own := own) hc hn hs (dgP p) (gcP p) hdl hd (dgP p) 0 (by omega)
    simp only [List.take_zero, zm_nil, zB, Int.natCast_zero] at l1 l2 ⊢
    generalize zm _ = X at *
    generalize gcP p = d at *
    generalize dgP p = k at *
    rw [run72 _ _ _ (by simp)]
    simp (maxSteps := 1000000) (disch := first | omega | decide | assumption | simp [scal]) [lenA_sl lk_22, o_indexAddrS es_22, loadA_eq ia_3, ze_22, o_buildSlice es_22 ze_22 (by decide) ba_22_1, ap_22, builtin_append ni_22, l1, l2]
end
theorem q55 (c : Nat) {cs : List Value} {own : Bool} {p : List Int} (hc : PoC cs p) (hn : p.length ≤ 60) (hs : ∀ i, i < p.length - 1 → Sm (p.getD (i + 1) 0 * ((i : Int) + 1))) : ∀ (q i : Nat), i + q + 1 = p.length →
    lpB Try.prog LL ⟨55, 21, 1, none⟩ n55_8 n55_9 ⟨[(0, sl 0 0 p.length c), (3, sl 1 0 i i), (4, iv ((i : Int) + 1))], [.cells cs 1 true own, .cells (zm ((slp p).take i)) 1 true true], []⟩ =
      some (.exit 0, ⟨[(3, sl 1 0 (p.length - 1) (p.length - 1))], [.cells cs 1 true own, zB (slp p)], []⟩) := by
  intro q
  induction q with
  | zero =>
    intro i hi
    obtain rfl : i = p.length - 1 := by omega
    rw [List.take_of_length_le (by rw [slp_len]; exact Nat.le_refl _)]
    have e0 : ¬ ((p.length - 1 : Nat) : Int) + 1 < p.length := by omega
    simp only [zB]
    generalize zm (slp p) = X
    generalize p.length - 1 = k at *
    rw [lpB_eq]
    simp (maxSteps := 1000000) (disch := first | omega | decide | assumption | simp [scal]) [lenA_sl lk_22, o_indexAddrS es_22, loadA_eq ia_3, ze_22, o_buildSlice es_22 ze_22 (by decide) ba_22_1, ap_22, builtin_append ni_22, e0]
  | succ q ih =>
    intro i hi
    have e0 : i + 1 < p.length := by omega
    have e1 : (i : Int) + 1 < p.length := by omega
    have this := ih (i + 1) (by omega)
    have p1 := hc (i + 1) e0
    have w := (hs i (by omega)).w
    rw [Int.mul_comm] at w
    have hl : ((slp p).take i).length = i := by rw [List.length_take, slp_len]; omega
    have hgd : (slp p).getD i 0 = ((i : Int) + 1) * p.getD (i + 1) 0 := by simp [slp, List.getD_eq_getElem?_getD, show i < p.length - 1 by omega]; rw [Int.mul_comm]
    rw [zm_take (by rw [slp_len]; omega), hgd] at this
    have ag := fun hp c2 rd => app_w (h := hp) (b := 1) (c := c2) (l := i) (L := (slp p).take i) (x := ((i : Int) + 1) * p.getD (i + 1) 0) (rd := rd) hl (by omega)
    have e4 : ((i : Int) + 1).toNat = i + 1 := by omega
    have e5 : 0 ≤ (i : Int) + 1 := by omega
    have w2 : IntKind.i64.wrap ((i : Int) + 1 + 1) = (i : Int) + 1 + 1 := wrap_i64_id (by omega) (by omega)
    clear ih hs hc hgd
    simp only [cast1] at this
    simp only [zB] at this ⊢
    generalize zm ((slp p).take i) = R at *
    generalize p.getD (i + 1) 0 = x at *
    generalize zm (slp p) = X at *
    rw [lpB_eq]
    simp (maxSteps := 1000000) (disch := first | omega | decide | assumption | simp [scal]) [lenA_sl lk_22, o_indexAddrS es_22, loadA_eq ia_3, ze_22, o_buildSlice es_22 ze_22 (by decide) ba_22_1, ap_22, builtin_append ni_22, e0, e1, e4, e5, p1, w, w2, append_some ap_22, srcCells, ag, this]
section
variable (b c : Nat) {cs : List Value} {own : Bool} {p : List Int} {h : List Blk} (hb : h[b]? = some (.cells cs 1 true own)) (hc : PoC cs p)
include hb hc
theorem r55 (h0 : 0 < p.length) (hn : p.length ≤ 60) (hs : ∀ i, i < p.length - 1 → Sm (p.getD (i + 1) 0 * ((i : Int) + 1))) : callH LL 55 [sl b 0 p.length c] h = some ⟨sl h.length 0 (p.length - 1) (p.length - 1), h ++ [zB (slp p)], [b], []⟩ := by
  refine callN_1 rfl hb noIdB_flat (args' := [sl 0 0 p.length c]) (by simp [renV, dep, optAll, idx, nbeq]) (v := sl 1 0 (p.length - 1) (p.length - 1)) (news := [zB (slp p)]) (go (by decide) ?_) (by intro blk hb; simp only [List.mem_singleton] at hb; subst hb; exact noIdB_flat) (by simp [renV, dep])
  have this := q55 c (own := own) hc hn hs (p.length - 1) 0 (by omega)
  simp only [List.take_zero, zm_nil, zB, Int.natCast_zero, Int.zero_add] at this ⊢
  generalize zm _ = X at *
  generalize p.length - 1 = k at *
  rw [run55 _ _ _ (by simp)]
  simp (maxSteps := 1000000) (disch := first | omega | decide | assumption | simp [scal]) [lenA_sl lk_22, o_indexAddrS es_22, loadA_eq ia_3, ze_22, o_buildSlice es_22 ze_22 (by decide) ba_22_1, ap_22, builtin_append ni_22, this]
end
end Go.Proofs.Ytkmompbfcgjgmaa.nt
namespace Go.Proofs.Ytkmompbfcgjgmaa.nt
open Go.GE
set_option linter.unusedVariables false
set_option linter.unusedSimpArgs false
set_option linter.unusedSectionVars false
set_option maxRecDepth 100000
set_option maxHeartbeats 4000000
attribute [local simp] runOps_nil runOps_cons runOpsF_nil runOpsF_cons fstS_some fstF_some opStep_eq want_none oStep_true oStep_false fin_pure fin_read fin_alloc fin_write storeB wrN cellV addWr o_move o_assign o_pick o_alloc o_box o_load o_store o_nilCheck o_bin o_un o_extract o_callV o_callB o_callI callV_f callV_y callV_fc o_makeFunc partsA Instr.fill builtin_len builtin_max2 bin_add bin_sub bin_mul bin_quo bin_rem bin_lss bin_leq bin_gtr bin_geq bin_eql bin_neq un_neg un_not bin_shr bin_shl wrap_u64_id opd opds optAll putO nbeq nblt constOk isC ops sub cl cr co bodyOf thenS_normal thenS_ret thenS_exit thenS_goto afterN_normal afterN_ret afterN_exit afterN_goto condS_true condS_false blockS_normal blockS_ret blockS_exit blockS_goto headS normS normK_eq fixS_nil fixS_cons fix1 fixV emptyB keepO_nil keepO_cons roundC_normal roundC_exit roundC_ret roundC_goto sweep_eq sweepD rnm pickR pickW rootsB ptrT renT ptrFn renFn ptrB_flat ptrB_non renB_flat renB_non plainS_some drawS_some fpsOk disj unord range' dropTo enumT undef wrap_i64_id Value.cells mkCells ptrTo scal cellsAt rdN endS_ret resultsA Option.bind_some tupV finish reachN dep ptrL_eq ptrL renL_eq renL ptrV_bool ptrV_int ptrV_string ptrV_nilFunc ptrV_nilIface ptrV_nilPtr ptrV_ptr ptrV_nilSl ptrV_sl ptrV_iface ptrV_agg ptrV_tuple ptrV_func renV_bool renV_int renV_string renV_nilFunc renV_nilIface renV_nilPtr renV_ptr renV_nilSl renV_sl renV_iface renV_agg renV_tuple renV_func gotoS_goto gotoS_normal gotoS_exit gotoS_ret skip_seq sliceE bnd bndHi intOf optOpd keepT_nil keepT_cons keepC_t keepC_f lk_nil lk_cons lkC_t lkC_f has_nil has_cons hasC_t hasC_f rep_nil rep_cons repC_t repC_f put_eq putC_t putC_f mem_nil mem_cons memC_t memC_f idx_nil idx_cons idxC_t idxC_f reach_nil reachP_cons reachQ_t reachQ_f ptrB_dead renB_dead ins_eq
attribute [local simp] n68_1s n68_3s n68_5s n68_11s n68_13s n68_14s n68_12s n68_10s n68_17s n68_19s n68_21s n68_24s n68_29s n68_31s n68_32s n68_30s n68_28s n68_35s n68_34s n68_36s n68_33s n68_27s n68_26s n68_26g n68_25s n68_23s n68_41s n68_43s n68_44s n68_42s n68_40s n68_46s n68_45s n68_39s n68_38s n68_38g n68_37s n68_22s n68_20s n68_18s n68_16s n68_15s n68_9s n68_8s n68_8g n68_7s n68_48s n68_49s n68_47s n68_6s n68_4s n68_2s n68_0s Try.f68
theorem sz_eq {o : List Int} : sz o = if lst o < -(lst o) then -(lst o) else lst o := by
  unfold sz
  split <;> omega
section
variable (P0 : Blk) {co : List Value} {own : Bool} {o : List Int} (cc : Nat) (ho : PoC co o) (h60 : o.length ≤ 60)
include ho h60
theorem q68i (k n ql : Nat) (Qv : List Value) (g : Nat → Int) (s l : Int) (hn : k + o.length = n) (hn60 : n ≤ 60) (hb : ∀ j, j < o.length → Sm (l * o.getD j 0)) (hb2 : ∀ j, j < o.length → Sm (g (j + k) - l * o.getD j 0)) : ∀ (q j : Nat), j + q = o.length →
    lpB Try.prog LL ⟨68, 104, 2, none⟩ n68_26 n68_27 ⟨[(8, iv l), (9, iv k), (10, iv j), (0, sl 2 0 n n), (1, sl 1 0 o.length cc), (6, iv s), (7, sl 3 0 ql ql)],
        [P0, .cells co 1 true own, .cells (mxK (fun i => g i - l * o.getD (i - k) 0) g n k j) 1 true true, .cells Qv 1 true true], []⟩ =
      some (.exit 2, ⟨[(0, sl 2 0 n n), (1, sl 1 0 o.length cc), (6, iv s), (7, sl 3 0 ql ql)], [P0, .cells co 1 true own, .cells (mxK (fun i => g i - l * o.getD (i - k) 0) g n k o.length) 1 true true, .cells Qv 1 true true], []⟩) := by
  intro q
  induction q with
  | zero =>
    intro j hj
    obtain rfl : j = o.length := by omega
    generalize mxK _ _ _ _ _ = X
    rw [lpB_eq]
    simp (maxSteps := 1000000) (disch := first | omega | decide | assumption | simp [scal]) [lenA_sl lk_22, o_indexAddrS es_22, loadA_eq ia_3, sz_3, o_sliceS sl_22, want_some q68_41g3]
  | succ q ih =>
    intro j hj
    have e0 : j < o.length := by omega
    have e1 : (j : Int) < o.length := by omega
    have this := ih (j + 1) (by omega)
    have p1 := ho j e0
    have w1 := (hb j e0).w
    have w2 := (hb2 j e0).w
    have hset := mxK_set (f := fun i => g i - l * o.getD (i - k) 0) (g := g) (n := n) (k := k) (j := j) (by omega)
    simp only [Nat.add_sub_cancel] at hset
    have hl := mxK_len (f := fun i => g i - l * o.getD (i - k) 0) (g := g) (n := n) (k := k) (j := j)
    have p2 := mxK_get (f := fun i => g i - l * o.getD (i - k) 0) (g := g) (n := n) (k := k) (j := j) (i := j + k) (by omega) (by omega)
    rw [← hset] at this
    clear ih hset hb hb2
    simp only [cast1] at this
    have e2 : j + k < n := by omega
    have e3 : (k : Int) + (j : Int) < n := by omega
    have e4 : ((k : Int) + (j : Int)).toNat = j + k := by omega
    have e5 : 0 ≤ (k : Int) + (j : Int) := by omega
    have e6 : IntKind.i64.wrap ((k : Int) + (j : Int)) = (k : Int) + (j : Int) := wrap_i64_id (by omega) (by omega)
    generalize mxK _ _ _ _ j = R at *
    generalize mxK _ _ _ _ _ = X at *
    generalize o.getD j 0 = x at *
    generalize g (j + k) = y at *
    generalize j + k = jk at *
    have p3 : ∀ (h : jk < R.length), R[jk]'h = iv y := fun h => by rw [List.getElem?_eq_getElem h] at p2; exact Option.some.inj p2
    rw [lpB_eq]
    simp (maxSteps := 1000000) (disch := first | omega | decide | assumption | simp [scal]) [lenA_sl lk_22, o_indexAddrS es_22, loadA_eq ia_3, sz_3, o_sliceS sl_22, want_some q68_41g3, e0, e1, e2, e3, e4, e5, e6, p1, p2, p3, w1, w2, hl, this]
end
theorem q68t (P0 P1 : Blk) (on cc ql : Nat) (Qv : List Value) (x : Int) {cs : List Value} {p : List Int} (hc : PoC cs p) (c : Nat) : ∀ (k : Nat), k ≤ p.length → k ≤ c → k ≤ 60 →
    lpB Try.prog LL ⟨68, 104, 2, none⟩ n68_38 n68_39 ⟨[(0, sl 2 0 k c), (1, sl 1 0 on cc), (6, iv x), (7, sl 3 0 ql ql)], [P0, P1, .cells cs 1 true true, .cells Qv 1 true true], []⟩ =
      some (.exit 4, ⟨[(0, sl 2 0 (trmN p k) c), (1, sl 1 0 on cc), (6, iv x), (7, sl 3 0 ql ql)], [P0, P1, .cells cs 1 true true, .cells Qv 1 true true], []⟩) := by
  intro k
  induction k with
  | zero =>
    intro _ _ _
    simp only [trmN]
    rw [lpB_eq]
    simp (maxSteps := 1000000) (disch := first | omega | decide | assumption | simp [scal]) [lenA_sl lk_22, o_indexAddrS es_22, loadA_eq ia_3, sz_3, o_sliceS sl_22, want_some q68_41g3]
  | succ k ih =>
    intro h1 h2 h3
    have p1 := hc k (by omega)
    have this := ih (by omega) (by omega) (by omega)
    simp only [trmN]
    have e1 : (0 : Int) < (k : Int) + 1 := by omega
    have e2 : (k : Int) + 1 - 1 = k := by omega
    have e3 : (k : Int) ≤ c := by omega
    have e4 : k ≤ c := by omega
    have e5 : (k : Int) < (k : Int) + 1 := by omega
    have e6 : k < k + 1 := by omega
    have e7 : IntKind.i64.wrap (k : Int) = k := wrap_i64_id (by omega) (by omega)
    have p3 : ∀ (h : k < cs.length), cs[k]'h = iv (p.getD k 0) := fun h => by rw [List.getElem?_eq_getElem h] at p1; exact Option.some.inj p1
    clear ih hc
    by_cases h0 : p.getD k 0 = 0
    · rw [if_pos h0]
      rw [h0] at p1 p3
      generalize trmN p k = Z at *
      rw [lpB_eq]
      simp (maxSteps := 1000000) (disch := first | omega | decide | assumption | simp [scal]) [lenA_sl lk_22, o_indexAddrS es_22, loadA_eq ia_3, sz_3, o_sliceS sl_22, want_some q68_41g3, e1, e2, e3, e4, e5, e6, e7, p1, p3, this]
    · rw [if_neg h0]
      generalize p.getD k 0 = x at *
      rw [lpB_eq]
      simp (maxSteps := 1000000) (disch := first | omega | decide | assumption | simp [scal]) [lenA_sl lk_22, o_indexAddrS es_22, loadA_eq ia_3, sz_3, o_sliceS sl_22, want_some q68_41g3, e1, e2, e3, e4, e5, e6, e7, h0, p1, p3]
end Go.Proofs.Ytkmompbfcgjgmaa.nt
