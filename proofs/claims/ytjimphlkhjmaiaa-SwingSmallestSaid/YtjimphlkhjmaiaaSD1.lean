/-
  Contracts of functions of the program at the limit evaluator. No condition.
-/
import Derived.Test.YtjimphlkhjmaiaaSDN
import Derived.Laws.RangeString
import Derived.Lib.Repeat
import Derived.Lib.Strings
import Derived.Test.YtjimphlkhjmaiaaE40
namespace Go.Proofs.Ytjimphlkhjmaiaa.sw
open Go.GE
set_option linter.unusedVariables false
set_option linter.unusedSimpArgs false
set_option linter.unusedSectionVars false
set_option maxRecDepth 100000
set_option maxHeartbeats 4000000
theorem k14 (h : List Blk) : callH LL 14 [] h = some ⟨.bool true, h, [], []⟩ := callH_plain (L_tab rfl) rfl rfl
abbrev uv (n : Nat) : Value := .int .u8 (n : Int)
abbrev sl (b off n c : Nat) : Value := .slice (some ⟨b, off, none⟩) n c
abbrev pp (b : Nat) : Value := .pointer (some ⟨b, 0, none⟩)
theorem wrap_nn {a : Nat} (h : a < 2 ^ 63) : IntKind.i64.wrap (a : Int) = a := wrap_i64_id (by omega) (by omega)
end Go.Proofs.Ytjimphlkhjmaiaa.sw
namespace Go.Proofs.Ytjimphlkhjmaiaa.sw
open Go.GE
set_option linter.unusedVariables false
set_option linter.unusedSimpArgs false
set_option linter.unusedSectionVars false
set_option maxRecDepth 100000
set_option maxHeartbeats 4000000
abbrev st (l : List UInt8) : Value := .string ⟨l.toArray⟩
theorem bytes_mk (l : List UInt8) : (⟨l.toArray⟩ : ByteArray).toList = l := by rw [Lib.toList_data]
theorem bin_eqls {t : TypeId} {c : Bool} {a b : List UInt8} : binA Try.prog .eql t c (st a) (st b) = some (.bool (decide (a = b))) := by
  simp only [binA, Op.stringOp, bytes_mk, pureOf, pure]
  by_cases h : a = b <;> simp [h]
theorem bin_neqs {t : TypeId} {c : Bool} {a b : List UInt8} : binA Try.prog .neq t c (st a) (st b) = some (.bool !(decide (a = b))) := by
  simp only [binA, Op.stringOp, bytes_mk, pureOf, pure]
  by_cases h : a = b <;> simp [h]
theorem bin_lsss {t : TypeId} {c : Bool} {a b : List UInt8} : binA Try.prog .lss t c (st a) (st b) = some (.bool (Op.bytesLess a b)) := by
  simp only [binA, Op.stringOp, bytes_mk, pureOf, pure]
theorem bin_geqs {t : TypeId} {c : Bool} {a b : List UInt8} : binA Try.prog .geq t c (st a) (st b) = some (.bool !(Op.bytesLess a b)) := by
  simp only [binA, Op.stringOp, bytes_mk, pureOf, pure]
theorem st_size (l : List UInt8) : (⟨l.toArray⟩ : ByteArray).size = l.length := rfl
theorem bin_adds {t : TypeId} {c : Bool} {a b : List UInt8} (h : a.length + b.length ≤ 9223372036854775807) : binA Try.prog .add t c (st a) (st b) = some (st (a ++ b)) := by
  have : ¬ (((a.length + b.length : Nat) : Int) > IntKind.i64.max) := by
    rw [show IntKind.i64.max = (2 ^ 63 : Int) - 1 from rfl]; omega
  simp only [binA, Op.stringOp, st_size, if_neg this, pureOf, pure]
  congr 2
section
open Go.ChangeShapes Go.WideShapes Go.RowKit
variable {H : Type} {enc : TypeId × Value → H} {W : World} {base b0 : Nat} {v : Value} {d : DataW H} {p : List MemPlace}
theorem open_u8 (hv : Value.okWide Try.prog W .any b0 5 v) (hd : DataW.Trod enc Try.prog W base (fun _ => true) true 5 v d p) : ∃ n : Nat, v = uv n ∧ n < 256 := by
  obtain ⟨y, rfl, _, _, h⟩ := open_int (show Try.prog.underlying 5 = some (.int .u8) from by kernel_rfl) hv hd
  obtain ⟨n, rfl, hn⟩ := nat_of (b := 255) (u8_wf h)
  exact ⟨n, rfl, hn⟩
end
end Go.Proofs.Ytjimphlkhjmaiaa.sw
namespace Go.Proofs.Ytjimphlkhjmaiaa.sw
open Go.GE
set_option linter.unusedVariables false
set_option linter.unusedSimpArgs false
set_option linter.unusedSectionVars false
set_option maxRecDepth 100000
set_option maxHeartbeats 4000000
theorem u9 : Try.prog.underlying 9 = some .string := by kernel_rfl
theorem u5 : Try.prog.underlying 5 = some (.int .u8) := by kernel_rfl
theorem u51 : Try.prog.underlying 51 = some (.slice 5) := by kernel_rfl
theorem ext_st {l : List UInt8} {a b : Nat} : (⟨l.toArray⟩ : ByteArray).extract a b = ⟨((l.drop a).take (b - a)).toArray⟩ := by rw [Lib.extract_eq]
def sliceB (h : List Blk) (s : ByteArray) (lo hi : Option Value) : Option OR :=
  match bnd hi s.size s.size with
  | some hh => match bnd lo hh 0 with
    | some ll => pureR h (.string (s.extract ll hh))
    | none => none
  | none => none
section
variable {σ : Tm} {h : List Blk} {d : Option Nat} {ty : TypeId} {pos : String} {af : Array Edge} {g : Option (Nat × Bool)} {x y z : Operand} {lo hi : Option Operand}
theorem o_sliceT : aop Try.prog LL σ h ⟨d, .slice 9 x lo hi none, ty, pos, af, g⟩ = (match opd σ x, optOpd σ lo, optOpd σ hi with
    | some (.string s), some lo, some hi => sliceB h s lo hi
    | _, _, _ => none) := by
  simp only [aop, u9, show optOpd σ none = some none from rfl]
  rcases opd σ x with _ | v
  · rfl
  cases v with
  | string s =>
    rcases optOpd σ lo with _ | lo'
    · rfl
    rcases optOpd σ hi with _ | hi'
    · rfl
    rfl
  | slice a l c =>
    rcases a with _ | ⟨b, o, _ | _⟩ <;> rcases optOpd σ lo with _ | lo' <;> rcases optOpd σ hi with _ | hi' <;> first | rfl | (cases l <;> cases c <;> rfl)
  | _ => rfl
/-- bytes turned into a string -/
def conS (h : List Blk) (b o n : Nat) : Option OR := match n with
  | 0 => pureR h (.string .empty)
  | _ => match cellsC h b with
    | some cs => match rdN cs o n with
      | some l => (bytesOf l).map fun bs => ⟨.string ⟨bs.toArray⟩, h, [b], []⟩
      | none => none
    | none => none
theorem o_conT : aop Try.prog LL σ h ⟨d, .convert 51 9 x, ty, pos, af, g⟩ = (match opd σ x with
    | some (.slice none 0 0) => pureR h (.string .empty)
    | some (.slice (some ⟨b, o, none⟩) n _) => conS h b o n
    | _ => none) := by
  simp only [aop, u9, u51, u5]
  rcases opd σ x with _ | v
  · rfl
  cases v with
  | slice a l c =>
    rcases a with _ | ⟨b, o, _ | _⟩
    · cases l <;> cases c <;> rfl
    · cases l <;> rfl
    · rfl
  | _ => rfl
theorem o_rangeT : aop Try.prog LL σ h ⟨d, .range 9 x, ty, pos, af, g⟩ = (match opd σ x with
    | some (.string s) => allocR h (.siter s 0) ptrTo
    | _ => none) := by
  simp only [aop, u9]
  rcases opd σ x with _ | v
  · rfl
  cases v <;> rfl
def nextB (h : List Blk) (b : Nat) : Option OR := match h[b]? with
  | some (.siter s p) => if p < s.size then
      some ⟨.tuple #[.bool true, goInt p, .int .i32 (Utf8.decode s p).1], h.set b (.siter s (p + (Utf8.decode s p).2)), [b], [b]⟩
    else some ⟨.tuple #[.bool false], h, [b], []⟩
  | _ => none
theorem o_nextT : aop Try.prog LL σ h ⟨d, .next x true, ty, pos, af, g⟩ = (match opd σ x with
    | some (.pointer (some ⟨b, 0, none⟩)) => nextB h b
    | _ => none) := rfl
theorem lenA_st {l : List UInt8} : lenA Try.prog h 9 (st l) = some (iv l.length, []) := by
  simp only [lenA, u9]; rfl
end
end Go.Proofs.Ytjimphlkhjmaiaa.sw
namespace Go.Proofs.Ytjimphlkhjmaiaa.sw
open Go.GE
set_option linter.unusedVariables false
set_option linter.unusedSimpArgs false
set_option linter.unusedSectionVars false
set_option maxRecDepth 100000
set_option maxHeartbeats 4000000
attribute [local simp] runOps_nil runOps_cons runOpsF_nil runOpsF_cons fstS_some fstF_some opStep_eq want_none oStep_true oStep_false fin_pure fin_read fin_alloc fin_write storeB wrN cellV addWr o_move o_assign o_pick o_alloc o_box o_load o_store o_nilCheck o_bin o_un o_extract o_callV o_callB o_callI callV_f callV_y callV_fc o_makeFunc partsA Instr.fill builtin_len builtin_max2 bin_add bin_sub bin_mul bin_quo bin_rem bin_lss bin_leq bin_gtr bin_geq bin_eql bin_neq un_neg un_not bin_shr bin_shl wrap_u64_id opd opds optAll putO nbeq nblt constOk isC ops sub cl cr co bodyOf thenS_normal thenS_ret thenS_exit thenS_goto afterN_normal afterN_ret afterN_exit afterN_goto condS_true condS_false blockS_normal blockS_ret blockS_exit blockS_goto headS normS normK_eq fixS_nil fixS_cons fix1 fixV emptyB keepO_nil keepO_cons roundC_normal roundC_exit roundC_ret roundC_goto sweep_eq sweepD rnm pickR pickW rootsB ptrT renT ptrFn renFn ptrB_flat ptrB_non renB_flat renB_non plainS_some drawS_some fpsOk disj unord range' dropTo enumT undef wrap_i64_id Value.cells mkCells ptrTo scal cellsAt rdN endS_ret resultsA Option.bind_some tupV finish reachN dep ptrL_eq ptrL renL_eq renL ptrV_bool ptrV_int ptrV_string ptrV_nilFunc ptrV_nilIface ptrV_nilPtr ptrV_ptr ptrV_nilSl ptrV_sl ptrV_iface ptrV_agg ptrV_tuple ptrV_func renV_bool renV_int renV_string renV_nilFunc renV_nilIface renV_nilPtr renV_ptr renV_nilSl renV_sl renV_iface renV_agg renV_tuple renV_func gotoS_goto gotoS_normal gotoS_exit gotoS_ret skip_seq sliceE bnd bndHi intOf optOpd keepT_nil keepT_cons keepC_t keepC_f lk_nil lk_cons lkC_t lkC_f has_nil has_cons hasC_t hasC_f rep_nil rep_cons repC_t repC_f put_eq putC_t putC_f mem_nil mem_cons memC_t memC_f idx_nil idx_cons idxC_t idxC_f reach_nil reachP_cons reachQ_t reachQ_f ptrB_dead renB_dead ins_eq
attribute [local simp] n35_1s n35_3s n35_4s n35_2s n35_0s Try.f35
def bitU (b : Bool) : UInt8 := cond b 49 48
def markU (l : List Bool) : List UInt8 := l.map bitU
theorem bitU_inj {a b : Bool} (h : bitU a = bitU b) : a = b := by cases a <;> cases b <;> first | rfl | (exact absurd h (by decide))
theorem markU_inj {a b : List Bool} (h : markU a = markU b) : a = b := by
  induction a generalizing b with
  | nil => cases b with
    | nil => rfl
    | cons => simp [markU] at h
  | cons x a ih => cases b with
    | nil => simp [markU] at h
    | cons y b =>
      simp only [markU, List.map_cons, List.cons.injEq] at h
      rw [bitU_inj h.1, ih h.2]
def lessB : List Bool → List Bool → Bool
  | _, [] => false
  | [], _ :: _ => true
  | a :: x, b :: y => cond a (cond b (lessB x y) false) (cond b true (lessB x y))
theorem less_mark : ∀ {a b : List Bool}, Op.bytesLess (markU a) (markU b) = lessB a b := by
  intro a
  induction a with
  | nil => intro b; cases b <;> rfl
  | cons x a ih =>
    intro b
    cases b with
    | nil => rfl
    | cons y b =>
      simp only [markU, List.map_cons, Op.bytesLess, lessB]
      have := ih (b := b)
      simp only [markU] at this
      cases x <;> cases y <;> simp [bitU, this]
theorem mark_len {l : List Bool} : (markU l).length = l.length := by simp [markU]
theorem mark_app {a b : List Bool} : markU (a ++ b) = markU a ++ markU b := by simp [markU]
theorem mark_drop {l : List Bool} {t : Nat} : (markU l).drop t = markU (l.drop t) := by simp [markU, List.map_drop]
theorem mark_take {l : List Bool} {t : Nat} : (markU l).take t = markU (l.take t) := by simp [markU, List.map_take]
abbrev rwV (l : List Bool) : Value := st (markU l)
/-- the turn of a rim -/
def turnB (l : List Bool) (t : Nat) : List Bool := l.drop t ++ l.take t
theorem k35 (l : List Bool) (t : Nat) (ht : t ≤ l.length) (hl : l.length < 2 ^ 40) (h : List Blk) : callH LL 35 [rwV l, iv t] h = some ⟨rwV (turnB l t), h, [], []⟩ := by
  refine callH_none rfl (fun _ => rfl) (L_run rfl ?_) fun _ => rfl
  have h1 : (t : Int) ≤ (l.length : Int) := by omega
  have h2 : (markU (l.drop t)).length + (markU (l.take t)).length ≤ 9223372036854775807 := by rw [mark_len, mark_len]; simp; omega
  have hd : List.take (l.length - t) (l.drop t) = l.drop t := List.take_of_length_le (by simp)
  have e : rwV (turnB l t) = st (markU (l.drop t) ++ markU (l.take t)) := by unfold rwV turnB; rw [mark_app]
  rw [e, run35 _ _ _ (by simp)]
  simp (maxSteps := 1000000) (disch := first | omega | decide | assumption | simp [scal]) [o_sliceT, sliceB, st_size, mark_len, ext_st, mark_drop, mark_take, hd, @bin_adds _ _ _ _ h2, h1, ht]
end Go.Proofs.Ytjimphlkhjmaiaa.sw
namespace Go.Proofs.Ytjimphlkhjmaiaa.sw
open Go.GE
set_option linter.unusedVariables false
set_option linter.unusedSimpArgs false
set_option linter.unusedSectionVars false
set_option maxRecDepth 100000
set_option maxHeartbeats 4000000
def markV (l : List Bool) : List Value := l.map fun b => uv (cond b 49 48)
/-- the first marks, and zeros behind them -/
def fillV (l : List Bool) (k : Nat) : List Value := markV l ++ List.replicate k (uv 0)
theorem markV_len {l : List Bool} : (markV l).length = l.length := by simp [markV]
theorem fillV_len {l : List Bool} {k : Nat} : (fillV l k).length = l.length + k := by simp [fillV, markV_len]
theorem fillV_set {l : List Bool} {k : Nat} {b : Bool} {v : Value} (hv : v = uv (cond b 49 48)) : (fillV l (k + 1)).set l.length v = fillV (l ++ [b]) k := by
  subst hv
  unfold fillV
  rw [List.set_append_right _ _ (by rw [markV_len]; exact Nat.le_refl _), markV_len, Nat.sub_self, List.replicate_succ, List.set_cons_zero]
  simp [markV]
theorem markV_bytes : ∀ {l : List Bool}, bytesOf (markV l) = some (markU l) := by
  intro l
  induction l with
  | nil => rfl
  | cons b l ih =>
    show (bytesOf (markV l)).map (UInt8.ofNat ((cond b 49 48 : Nat) : Int).toNat :: ·) = some (markU (b :: l))
    rw [ih]
    cases b <;> rfl
theorem conS_mark {h : List Blk} {b n e : Nat} {l : List Bool} {fl ow : Bool} (hb : h[b]? = some (.cells (markV l) e fl ow)) (hn : l.length = n) (h1 : 1 ≤ n) : conS h b 0 n = some ⟨rwV l, h, [b], []⟩ := by
  obtain ⟨m, rfl⟩ : ∃ m, n = m + 1 := ⟨n - 1, by omega⟩
  have hr := rdN_all (markV l) (m + 1) 0 (by rw [markV_len]; omega)
  rw [List.drop_zero] at hr
  simp only [conS, cellsC, hb, hr, markV_bytes, Option.map_some]
/-- the marks of a number, the lowest ones first -/
def bitL (x n : Nat) : List Bool := (List.range n).map fun k => decide (x / 2 ^ k % 2 = 1)
theorem bitL_len {x n : Nat} : (bitL x n).length = n := by simp [bitL]
theorem bitL_succ {x n : Nat} : bitL x (n + 1) = bitL x n ++ [decide (x / 2 ^ n % 2 = 1)] := by simp [bitL, List.range_succ]
theorem mk51 {σ : Tm} {h : List Blk} {d : Option Nat} {ty : TypeId} {pos : String} {af : Array Edge} {g : Option (Nat × Bool)} {x y : Operand} : aop Try.prog LL σ h ⟨d, .makeSlice 51 x y, ty, pos, af, g⟩ = (match opd σ x, opd σ y with
    | some (.int _ n), some (.int _ k) => if 0 ≤ n ∧ n ≤ k ∧ k * 1 ≤ 70368744177664 ∧ k ≤ 70368744177664 then allocR h (.cells (List.replicate k.toNat (uv 0)) 1 true true) fun b => .slice (some ⟨b, 0, none⟩) n.toNat k.toNat else none
    | _, _ => none) := by
  have e1 : Try.prog.underlying 51 = some (.slice 5) := by kernel_rfl
  have e2 : (Try.prog.info? 5).map (fun i => (i.bytes, i.size)) = some (1, 1) := by kernel_rfl
  have e3 : zeroA Try.prog 5 = some (uv 0) := by kernel_rfl
  obtain ⟨i, hi, hp⟩ := Option.map_eq_some_iff.1 e2
  obtain ⟨h8, h1⟩ := Prod.mk.inj hp
  have hfl : ∀ k : Nat, (List.replicate k [uv 0]).flatten = List.replicate k (uv 0) := fun k => List.flatten_replicate_singleton
  simp only [aop, e1, e2, e3, hi, h8, h1]
  cases opd σ x with
  | none => rfl
  | some v =>
    cases v <;> try rfl
    cases opd σ y with
    | none => rfl
    | some w =>
      cases w <;> try rfl
      rename_i k1 n k2 m
      simp only [e3, hi, h8, h1]
      by_cases hc : 0 ≤ n ∧ n ≤ m ∧ m * 1 ≤ 70368744177664 ∧ m ≤ 70368744177664
      · rw [if_pos hc, if_pos ⟨hc.1, hc.2.1, by have := hc.2.2.1; omega, by have := hc.2.2.2; omega, by decide, rfl⟩]
        show allocR h (.cells ((List.replicate m.toNat [uv 0]).flatten) 1 true true) _ = _
        rw [hfl]
      · rw [if_neg hc, if_neg (fun h => hc ⟨h.1, h.2.1, by have := h.2.2.1; omega, by have := h.2.2.2.1; omega⟩)]
end Go.Proofs.Ytjimphlkhjmaiaa.sw
namespace Go.Proofs.Ytjimphlkhjmaiaa.sw
open Go.GE
set_option linter.unusedVariables false
set_option linter.unusedSimpArgs false
set_option linter.unusedSectionVars false
set_option maxRecDepth 100000
set_option maxHeartbeats 4000000
attribute [local simp] runOps_nil runOps_cons runOpsF_nil runOpsF_cons fstS_some fstF_some opStep_eq want_none oStep_true oStep_false fin_pure fin_read fin_alloc fin_write storeB wrN cellV addWr o_move o_assign o_pick o_alloc o_box o_load o_store o_nilCheck o_bin o_un o_extract o_callV o_callB o_callI callV_f callV_y callV_fc o_makeFunc partsA Instr.fill builtin_len builtin_max2 bin_add bin_sub bin_mul bin_quo bin_rem bin_lss bin_leq bin_gtr bin_geq bin_eql bin_neq un_neg un_not bin_shr bin_shl wrap_u64_id opd opds optAll putO nbeq nblt constOk isC ops sub cl cr co bodyOf thenS_normal thenS_ret thenS_exit thenS_goto afterN_normal afterN_ret afterN_exit afterN_goto condS_true condS_false blockS_normal blockS_ret blockS_exit blockS_goto headS normS normK_eq fixS_nil fixS_cons fix1 fixV emptyB keepO_nil keepO_cons roundC_normal roundC_exit roundC_ret roundC_goto sweep_eq sweepD rnm pickR pickW rootsB ptrT renT ptrFn renFn ptrB_flat ptrB_non renB_flat renB_non plainS_some drawS_some fpsOk disj unord range' dropTo enumT undef wrap_i64_id Value.cells mkCells ptrTo scal cellsAt rdN endS_ret resultsA Option.bind_some tupV finish reachN dep ptrL_eq ptrL renL_eq renL ptrV_bool ptrV_int ptrV_string ptrV_nilFunc ptrV_nilIface ptrV_nilPtr ptrV_ptr ptrV_nilSl ptrV_sl ptrV_iface ptrV_agg ptrV_tuple ptrV_func renV_bool renV_int renV_string renV_nilFunc renV_nilIface renV_nilPtr renV_ptr renV_nilSl renV_sl renV_iface renV_agg renV_tuple renV_func gotoS_goto gotoS_normal gotoS_exit gotoS_ret skip_seq sliceE bnd bndHi intOf optOpd keepT_nil keepT_cons keepC_t keepC_f lk_nil lk_cons lkC_t lkC_f has_nil has_cons hasC_t hasC_f rep_nil rep_cons repC_t repC_f put_eq putC_t putC_f mem_nil mem_cons memC_t memC_f idx_nil idx_cons idxC_t idxC_f reach_nil reachP_cons reachQ_t reachQ_f ptrB_dead renB_dead ins_eq
attribute [local simp] n42_1s n42_4s n42_8s n42_11s n42_12s n42_10s n42_15s n42_17s n42_20s n42_21s n42_19s n42_22s n42_18s n42_16s n42_14s n42_13s n42_9s n42_7s n42_6s n42_6g n42_5s n42_3s n42_24s n42_25s n42_23s n42_2s n42_0s Try.f42 n22_1s n22_5s n22_8s n22_9s n22_7s n22_11s n22_14s n22_15s n22_13s n22_17s n22_20s n22_21s n22_19s n22_22s n22_18s n22_16s n22_12s n22_10s n22_6s n22_4s n22_3s n22_24s n22_25s n22_23s n22_2s n22_0s Try.f22
theorem dec_row {l : List Bool} {p : Nat} (hp : p < l.length) : Utf8.decode ⟨(markU l).toArray⟩ p = ((cond (l.getD p false) 49 48 : Nat), 1) := by
  have hs : p < (⟨(markU l).toArray⟩ : ByteArray).size := by rw [st_size, mark_len]; exact hp
  have hv : (⟨(markU l).toArray⟩ : ByteArray)[p]'hs = bitU (l.getD p false) := by
    show (markU l).toArray[p]'_ = _
    simp [markU, hp]
  rw [decode_ascii _ _ hs (by rw [hv]; cases l.getD p false <;> decide), hv]
  cases l.getD p false <;> rfl
theorem next_row {h : List Blk} {b p : Nat} {l : List Bool} (hb : h[b]? = some (.siter ⟨(markU l).toArray⟩ p)) (hp : p < l.length) :
    nextB h b = some ⟨.tuple #[.bool true, iv p, .int .i32 ((cond (l.getD p false) 49 48 : Nat) : Int)], h.set b (.siter ⟨(markU l).toArray⟩ (p + 1)), [b], [b]⟩ := by
  have hs : p < (⟨(markU l).toArray⟩ : ByteArray).size := by rw [st_size, mark_len]; exact hp
  simp only [nextB, hb, if_pos hs, dec_row hp]
  rfl
theorem next_end {h : List Blk} {b p : Nat} {l : List Bool} (hb : h[b]? = some (.siter ⟨(markU l).toArray⟩ p)) (hp : l.length ≤ p) : nextB h b = some ⟨.tuple #[.bool false], h, [b], []⟩ := by
  have hs : ¬ p < (⟨(markU l).toArray⟩ : ByteArray).size := by rw [st_size, mark_len]; omega
  simp only [nextB, hb, if_neg hs]
theorem siter_ptr {s : ByteArray} {p : Nat} : ptrB (.siter s p) = [] := rfl
theorem siter_ren {f : Nat → Option Nat} {s : ByteArray} {p : Nat} : renB f (.siter s p) = some (.siter s p) := rfl
theorem k57 (x : Bool) (h : List Blk) : callH LL 57 [st [48, 49], .int .i32 ((cond x 49 48 : Nat) : Int)] h = some ⟨.bool true, h, [], []⟩ := by
  cases x
  · exact callH_none rfl (fun _ => rfl) (L_tab (by kernel_rfl)) fun _ => rfl
  · exact callH_none rfl (fun _ => rfl) (L_tab (by kernel_rfl)) fun _ => rfl
theorem l42 (l : List Bool) : ∀ (q p : Nat), p + q = l.length →
    lpB Try.prog LL ⟨42, 16, 0, none⟩ n42_6 n42_7 ⟨[(1, st [48, 49]), (8, pp 0)], [.siter ⟨(markU l).toArray⟩ p], []⟩ = some (.exit 0, ⟨[], [], []⟩) := by
  intro q
  induction q with
  | zero =>
    intro p hp
    have n1 := @next_end [.siter ⟨(markU l).toArray⟩ p] 0 p l rfl (by omega)
    generalize (⟨(markU l).toArray⟩ : ByteArray) = s at *
    rw [lpB_eq]
    simp (maxSteps := 1000000) (disch := first | omega | decide | assumption | simp [scal]) [siter_ptr, siter_ren, o_nextT, n1]
  | succ q ih =>
    intro p hp
    have n1 := @next_row [.siter ⟨(markU l).toArray⟩ p] 0 p l rfl (by omega)
    have n2 := fun h => k57 (l.getD p false) h
    have this := ih (p + 1) (by omega)
    simp only [List.set_cons_zero] at n1
    generalize (⟨(markU l).toArray⟩ : ByteArray) = s at *
    generalize ((cond (l.getD p false) 49 48 : Nat) : Int) = r at *
    clear ih
    rw [lpB_eq]
    simp (maxSteps := 1000000) (disch := first | omega | decide | assumption | simp [scal]) [siter_ptr, siter_ren, o_nextT, n1, n2, this]
theorem k42 (l : List Bool) (h : List Blk) : callH LL 42 [rwV l, st [48, 49]] h = some ⟨.bool true, h, [], []⟩ := by
  refine callH_none rfl (fun _ => rfl) (L_run rfl ?_) fun _ => rfl
  have lp := l42 l l.length 0 (by omega)
  rw [run42 _ _ _ (by simp)]
  unfold rwV st
  generalize (⟨(markU l).toArray⟩ : ByteArray) = s at *
  simp (maxSteps := 1000000) (disch := first | omega | decide | assumption | simp [scal]) [siter_ptr, siter_ren, o_rangeT, lp]
theorem k22 (l : List Bool) (h1 : 1 ≤ l.length) (h64 : l.length ≤ 64) (h : List Blk) : callH LL 22 [rwV l] h = some ⟨iv 0, h, [], []⟩ := by
  refine callH_none rfl (fun _ => rfl) (L_run rfl ?_) fun _ => rfl
  have e1 : ¬ markU l = [] := fun e => by have := @mark_len l; rw [e] at this; simp at this; omega
  have e2 : ¬ ((64 : Int) < (l.length : Int)) := by omega
  have e3 : ¬ (64 < l.length) := by omega
  have c1 := fun h => k42 l h
  have c2 := fun h => @lenA_st h (markU l)
  rw [mark_len] at c2
  have c3 := fun c => @bin_eqls 9 c (markU l) []
  rw [run22 _ _ _ (by simp)]
  simp (maxSteps := 1000000) (disch := first | omega | decide | assumption | simp [scal]) [c1, c2, c3, e1, e2, e3]
end Go.Proofs.Ytjimphlkhjmaiaa.sw
namespace Go.Proofs.Ytjimphlkhjmaiaa.sw
open Go.GE
set_option linter.unusedVariables false
set_option linter.unusedSimpArgs false
set_option linter.unusedSectionVars false
set_option maxRecDepth 100000
set_option maxHeartbeats 4000000
attribute [local simp] runOps_nil runOps_cons runOpsF_nil runOpsF_cons fstS_some fstF_some opStep_eq want_none oStep_true oStep_false fin_pure fin_read fin_alloc fin_write storeB wrN cellV addWr o_move o_assign o_pick o_alloc o_box o_load o_store o_nilCheck o_bin o_un o_extract o_callV o_callB o_callI callV_f callV_y callV_fc o_makeFunc partsA Instr.fill builtin_len builtin_max2 bin_add bin_sub bin_mul bin_quo bin_rem bin_lss bin_leq bin_gtr bin_geq bin_eql bin_neq un_neg un_not bin_shr bin_shl wrap_u64_id opd opds optAll putO nbeq nblt constOk isC ops sub cl cr co bodyOf thenS_normal thenS_ret thenS_exit thenS_goto afterN_normal afterN_ret afterN_exit afterN_goto condS_true condS_false blockS_normal blockS_ret blockS_exit blockS_goto headS normS normK_eq fixS_nil fixS_cons fix1 fixV emptyB keepO_nil keepO_cons roundC_normal roundC_exit roundC_ret roundC_goto sweep_eq sweepD rnm pickR pickW rootsB ptrT renT ptrFn renFn ptrB_flat ptrB_non renB_flat renB_non plainS_some drawS_some fpsOk disj unord range' dropTo enumT undef wrap_i64_id Value.cells mkCells ptrTo scal cellsAt rdN endS_ret resultsA Option.bind_some tupV finish reachN dep ptrL_eq ptrL renL_eq renL ptrV_bool ptrV_int ptrV_string ptrV_nilFunc ptrV_nilIface ptrV_nilPtr ptrV_ptr ptrV_nilSl ptrV_sl ptrV_iface ptrV_agg ptrV_tuple ptrV_func renV_bool renV_int renV_string renV_nilFunc renV_nilIface renV_nilPtr renV_ptr renV_nilSl renV_sl renV_iface renV_agg renV_tuple renV_func gotoS_goto gotoS_normal gotoS_exit gotoS_ret skip_seq sliceE bnd bndHi intOf optOpd keepT_nil keepT_cons keepC_t keepC_f lk_nil lk_cons lkC_t lkC_f has_nil has_cons hasC_t hasC_f rep_nil rep_cons repC_t repC_f put_eq putC_t putC_f mem_nil mem_cons memC_t memC_f idx_nil idx_cons idxC_t idxC_f reach_nil reachP_cons reachQ_t reachQ_f ptrB_dead renB_dead ins_eq
attribute [local simp] n40_1s n40_3s n40_4s n40_2s n40_0s Try.f40
def repB (l : List Bool) : Nat → List Bool
  | 0 => []
  | c + 1 => l ++ repB l c
theorem repB_len {l : List Bool} : ∀ c, (repB l c).length = c * l.length := by
  intro c
  induction c with
  | zero => simp [repB]
  | succ c ih => simp [repB, ih, Nat.succ_mul, Nat.add_comm]
theorem repB_mark {l : List Bool} : ∀ c, Lib.repeatL (markU l) c = markU (repB l c) := by
  intro c
  induction c with
  | zero => rfl
  | succ c ih => rw [Lib.repeatL, ih, repB, mark_app]
theorem k56 (l : List Bool) (c : Nat) (hc : c ≤ 2 ^ 20) (hl : l.length ≤ 2 ^ 10) (h : List Blk) : callH LL 56 [rwV l, iv c] h = some ⟨rwV (repB l c), h, [], []⟩ := by
  refine callH_none rfl (fun _ => rfl) (L_tab ?_) fun _ => rfl
  show (if 0 ≤ (c : Int) ∧ (⟨(markU l).toArray⟩ : ByteArray).size * (c : Int).toNat ≤ 2 ^ 40 ∧ (c : Int) ≤ 2 ^ 40 then some (⟨.string ⟨(Lib.repeatL (⟨(markU l).toArray⟩ : ByteArray).data.toList (c : Int).toNat).toArray⟩, [], []⟩ : RR) else none) = _
  have h1 : l.length * c ≤ 2 ^ 10 * 2 ^ 20 := Nat.mul_le_mul hl hc
  rw [if_pos ⟨by omega, by rw [st_size, mark_len]; simp only [Int.toNat_natCast]; omega, by omega⟩]
  simp only [Int.toNat_natCast, repB_mark]
abbrev strB (l : List Bool) : Blk := .cells [rwV l] 1 true true
abbrev intB (n : Nat) : Blk := .cells [iv n] 1 true true
/-- what is seen of some marks from an index on -/
def winB (l : List Bool) (k i : Nat) : List Bool := ((repB l (2 + k / l.length)).drop i).take k
theorem k40 (l : List Bool) (k : Nat) (h : List Blk) : callH LL 40 [rwV l, iv k] h = some ⟨.func (.func 55) #[] #[pp h.length, pp (h.length + 1)], h ++ [strB l, intB k], [], []⟩ := by
  refine callN_none (v := .func (.func 55) #[] #[pp 0, pp 1]) (news := [strB l, intB k]) rfl (fun _ => rfl) (L_run rfl ?_) (fun blk hb => by
    simp only [List.mem_cons, List.not_mem_nil, or_false] at hb
    rcases hb with rfl | rfl <;> exact noIdB_flat) (by simp [renV_func, renFn, renL, renV_ptr, dep, nblt])
  rw [run40 _ _ _ (by simp)]
  simp (maxSteps := 1000000) (disch := first | omega | decide | assumption | simp [scal])
end Go.Proofs.Ytjimphlkhjmaiaa.sw
namespace Go.Proofs.Ytjimphlkhjmaiaa.sw
open Go.GE
set_option linter.unusedVariables false
set_option linter.unusedSimpArgs false
set_option linter.unusedSectionVars false
set_option maxRecDepth 100000
set_option maxHeartbeats 4000000
attribute [local simp] runOps_nil runOps_cons runOpsF_nil runOpsF_cons fstS_some fstF_some opStep_eq want_none oStep_true oStep_false fin_pure fin_read fin_alloc fin_write storeB wrN cellV addWr o_move o_assign o_pick o_alloc o_box o_load o_store o_nilCheck o_bin o_un o_extract o_callV o_callB o_callI callV_f callV_y callV_fc o_makeFunc partsA Instr.fill builtin_len builtin_max2 bin_add bin_sub bin_mul bin_quo bin_rem bin_lss bin_leq bin_gtr bin_geq bin_eql bin_neq un_neg un_not bin_shr bin_shl wrap_u64_id opd opds optAll putO nbeq nblt constOk isC ops sub cl cr co bodyOf thenS_normal thenS_ret thenS_exit thenS_goto afterN_normal afterN_ret afterN_exit afterN_goto condS_true condS_false blockS_normal blockS_ret blockS_exit blockS_goto headS normS normK_eq fixS_nil fixS_cons fix1 fixV emptyB keepO_nil keepO_cons roundC_normal roundC_exit roundC_ret roundC_goto sweep_eq sweepD rnm pickR pickW rootsB ptrT renT ptrFn renFn ptrB_flat ptrB_non renB_flat renB_non plainS_some drawS_some fpsOk disj unord range' dropTo enumT undef wrap_i64_id Value.cells mkCells ptrTo scal cellsAt rdN endS_ret resultsA Option.bind_some tupV finish reachN dep ptrL_eq ptrL renL_eq renL ptrV_bool ptrV_int ptrV_string ptrV_nilFunc ptrV_nilIface ptrV_nilPtr ptrV_ptr ptrV_nilSl ptrV_sl ptrV_iface ptrV_agg ptrV_tuple ptrV_func renV_bool renV_int renV_string renV_nilFunc renV_nilIface renV_nilPtr renV_ptr renV_nilSl renV_sl renV_iface renV_agg renV_tuple renV_func gotoS_goto gotoS_normal gotoS_exit gotoS_ret skip_seq sliceE bnd bndHi intOf optOpd keepT_nil keepT_cons keepC_t keepC_f lk_nil lk_cons lkC_t lkC_f has_nil has_cons hasC_t hasC_f rep_nil rep_cons repC_t repC_f put_eq putC_t putC_f mem_nil mem_cons memC_t memC_f idx_nil idx_cons idxC_t idxC_f reach_nil reachP_cons reachQ_t reachQ_f ptrB_dead renB_dead ins_eq
attribute [local simp] n15_1s n15_4s n15_6s n15_9s n15_10s n15_8s n15_11s n15_7s n15_5s n15_3s n15_13s n15_16s n15_20s n15_21s n15_19s n15_24s n15_26s n15_27s n15_25s n15_23s n15_22s n15_17s n15_15s n15_29s n15_30s n15_28s n15_14s n15_12s n15_2s n15_0s Try.f15
noncomputable def lp15 (r t : Nat) : ALoop := ⟨.ready, none, 15, [(3, pp t), (2, pp r)], 27, #[18, 19], n15_19, n15_22⟩
theorem r15 (i t : Nat) (w r : List Bool) : LL.rnd 0 [iv i, rwV w] [.loop (lp15 2 1), intB t, strB r] =
    if lessB w r = true then some ⟨.bool true, [], [(0, .loop (lp15 2 1)), (2, strB w), (1, intB i)]⟩ else some ⟨.bool true, [], [(0, .loop (lp15 2 1))]⟩ := by
  rw [show LL = L Try.prog (wk.wtab.keep kpT) from rfl, L_rnd_eq]
  have e1 : codeB Try.prog LL ⟨15, 27, 3, some 0⟩ n15_19 ⟨[(19, rwV w), (18, iv i), (3, pp 1), (2, pp 2)], [.loop (lp15 2 1), intB t, strB r], []⟩ =
      some (.normal, ⟨[(7, rwV w), (6, iv i), (19, rwV w), (18, iv i), (3, pp 1), (2, pp 2)], [.loop (lp15 2 1), intB t, strB r], []⟩) := by
    simp (maxSteps := 1000000) (disch := first | omega | decide | assumption | simp [scal]) [za_9, za_3, sz_9, sz_3, loadA_eq ia_9, loadA_eq ia_3]
  have c1 := fun c => @bin_lsss 9 c (markU w) (markU r)
  rw [less_mark] at c1
  have e2 : codeB Try.prog LL ⟨15, 27, 3, some 0⟩ n15_22 ⟨[(7, rwV w), (6, iv i), (19, rwV w), (18, iv i), (3, pp 1), (2, pp 2)], [.loop { lp15 2 1 with state := .busy }, intB t, strB r], [0]⟩ =
      if lessB w r = true then some (.normal, ⟨[(7, rwV w), (6, iv i), (19, rwV w), (18, iv i), (3, pp 1), (2, pp 2)], [.loop { lp15 2 1 with state := .busy }, intB i, strB w], [0, 2, 1]⟩)
      else some (.normal, ⟨[(7, rwV w), (6, iv i), (19, rwV w), (18, iv i), (3, pp 1), (2, pp 2)], [.loop { lp15 2 1 with state := .busy }, intB t, strB r], [0]⟩) := by
    rcases Bool.eq_false_or_eq_true (lessB w r) with h | h
    · rw [h] at c1
      rw [if_pos h]
      simp (maxSteps := 1000000) (disch := first | omega | decide | assumption | simp [scal]) [za_9, za_3, sz_9, sz_3, loadA_eq ia_9, loadA_eq ia_3, c1, h, ins]
    · rw [h] at c1
      rw [if_neg (by simp [h])]
      simp (maxSteps := 1000000) (disch := first | omega | decide | assumption | simp [scal]) [za_9, za_3, sz_9, sz_3, loadA_eq ia_9, loadA_eq ia_3, c1, h]
  rcases Bool.eq_false_or_eq_true (lessB w r) with h | h
  · rw [if_pos h] at e2 ⊢
    rw [rnd_step (lp := lp15 2 1) (l1 := lp15 2 1) (l2 := { lp15 2 1 with state := .busy }) rfl rfl rfl rfl rfl e1 rfl rfl e2 rfl]
    simp (maxSteps := 1000000) (disch := first | omega | decide | assumption | simp [scal]) [ins, lp15, ptrB, renB]
  · rw [if_neg (by simp [h])] at e2 ⊢
    rw [rnd_step (lp := lp15 2 1) (l1 := lp15 2 1) (l2 := { lp15 2 1 with state := .busy }) rfl rfl rfl rfl rfl e1 rfl rfl e2 rfl]
    simp (maxSteps := 1000000) (disch := first | omega | decide | assumption | simp [scal]) [ins, lp15, ptrB, renB]
theorem y15 (i t : Nat) (w r : List Bool) (rest : List Blk) : yieldH LL 0 [iv i, rwV w] (.loop (lp15 2 1) :: intB t :: strB r :: rest) =
    if lessB w r = true then some ⟨.bool true, .loop (lp15 2 1) :: intB i :: strB w :: rest, [0, 1, 2], [0, 2, 1]⟩ else some ⟨.bool true, .loop (lp15 2 1) :: intB t :: strB r :: rest, [0, 1, 2], [0]⟩ := by
  have e := r15 i t w r
  have hm : ∀ q : Nat, 20 < q → reach (.loop (lp15 2 1) :: intB t :: strB r :: rest) 0 q [0] [] = [0, 1, 2] := by
    intro q hq
    obtain ⟨q, rfl⟩ : ∃ j, q = j + 20 := ⟨q - 20, by omega⟩
    simp [reach, mem, nblt, nbeq, ptrB, lp15, ptrT, ptrV_ptr, dep]
  unfold yieldH
  have hp : 0 :: ([iv i, rwV w] : List Value).flatMap (ptrV dep) = [0] := rfl
  have hr : ∀ g, optAll (renV g dep) [iv i, rwV w] = some [iv i, rwV w] := fun _ => rfl
  simp only [hp, hm reachN (by decide), hr]
  rcases Bool.eq_false_or_eq_true (lessB w r) with h | h
  · rw [if_pos h] at e ⊢
    simp only [lp15] at e ⊢
    simp [optAll, renB, renT, renV_ptr, dep, idx, nbeq, e, mergeB, renV_bool, nblt]
  · rw [if_neg (by simp [h])] at e ⊢
    simp only [lp15] at e ⊢
    simp [optAll, renB, renT, renV_ptr, dep, idx, nbeq, e, mergeB, renV_bool, nblt]
/-- the smallest one of the windows from an index on -/
def smW (l : List Bool) (k : Nat) : Nat → Nat → List Bool → Nat → List Bool × Nat
  | 0, _, r, t => (r, t)
  | q + 1, i, r, t => if lessB (winB l k i) r = true then smW l k q (i + 1) (winB l k i) i else smW l k q (i + 1) r t
end Go.Proofs.Ytjimphlkhjmaiaa.sw
namespace Go.Proofs.Ytjimphlkhjmaiaa.sw
open Go.GE
set_option linter.unusedVariables false
set_option linter.unusedSimpArgs false
set_option linter.unusedSectionVars false
set_option maxRecDepth 100000
set_option maxHeartbeats 4000000
attribute [local simp] runOps_nil runOps_cons runOpsF_nil runOpsF_cons fstS_some fstF_some opStep_eq want_none oStep_true oStep_false fin_pure fin_read fin_alloc fin_write storeB wrN cellV addWr o_move o_assign o_pick o_alloc o_box o_load o_store o_nilCheck o_bin o_un o_extract o_callV o_callB o_callI callV_f callV_y callV_fc o_makeFunc partsA Instr.fill builtin_len builtin_max2 bin_add bin_sub bin_mul bin_quo bin_rem bin_lss bin_leq bin_gtr bin_geq bin_eql bin_neq un_neg un_not bin_shr bin_shl wrap_u64_id opd opds optAll putO nbeq nblt constOk isC ops sub cl cr co bodyOf thenS_normal thenS_ret thenS_exit thenS_goto afterN_normal afterN_ret afterN_exit afterN_goto condS_true condS_false blockS_normal blockS_ret blockS_exit blockS_goto headS normS normK_eq fixS_nil fixS_cons fix1 fixV emptyB keepO_nil keepO_cons roundC_normal roundC_exit roundC_ret roundC_goto sweep_eq sweepD rnm pickR pickW rootsB ptrT renT ptrFn renFn ptrB_flat ptrB_non renB_flat renB_non plainS_some drawS_some fpsOk disj unord range' dropTo enumT undef wrap_i64_id Value.cells mkCells ptrTo scal cellsAt rdN endS_ret resultsA Option.bind_some tupV finish reachN dep ptrL_eq ptrL renL_eq renL ptrV_bool ptrV_int ptrV_string ptrV_nilFunc ptrV_nilIface ptrV_nilPtr ptrV_ptr ptrV_nilSl ptrV_sl ptrV_iface ptrV_agg ptrV_tuple ptrV_func renV_bool renV_int renV_string renV_nilFunc renV_nilIface renV_nilPtr renV_ptr renV_nilSl renV_sl renV_iface renV_agg renV_tuple renV_func gotoS_goto gotoS_normal gotoS_exit gotoS_ret skip_seq sliceE bnd bndHi intOf optOpd keepT_nil keepT_cons keepC_t keepC_f lk_nil lk_cons lkC_t lkC_f has_nil has_cons hasC_t hasC_f rep_nil rep_cons repC_t repC_f put_eq putC_t putC_f mem_nil mem_cons memC_t memC_f idx_nil idx_cons idxC_t idxC_f reach_nil reachP_cons reachQ_t reachQ_f ptrB_dead renB_dead ins_eq
attribute [local simp] n55_1s n55_3s n55_7s n55_10s n55_11s n55_9s n55_14s n55_16s n55_18s n55_19s n55_17s n55_15s n55_13s n55_12s n55_8s n55_6s n55_5s n55_5g n55_4s n55_2s n55_0s Try.f55
/-- the row that the windows are cut out of -/
abbrev longB (l : List Bool) (k : Nat) : List Bool := repB l (2 + k / l.length)
theorem long_len {l : List Bool} {k i : Nat} (hi : i < l.length) : i + k ≤ (longB l k).length := by
  rw [repB_len]
  have h1 := Nat.div_add_mod k l.length
  have h2 := Nat.mod_lt k (show 0 < l.length by omega)
  rw [Nat.add_mul, Nat.mul_comm (k / l.length)]
  omega
theorem slice_win {l : List Bool} {k i : Nat} (hi : i < l.length) (h : List Blk) : sliceB h ⟨(markU (longB l k)).toArray⟩ (some (iv i)) (some (iv ((i : Int) + k))) = pureR h (rwV (winB l k i)) := by
  have h1 := @long_len l k i hi
  have e1 : bnd (some (iv ((i : Int) + k))) (⟨(markU (longB l k)).toArray⟩ : ByteArray).size (⟨(markU (longB l k)).toArray⟩ : ByteArray).size = some (i + k) := by
    simp only [bnd, intOf, st_size, mark_len]
    rw [if_pos (by omega)]
    congr 1
  have e2 : bnd (some (iv i)) (i + k) 0 = some i := by
    simp only [bnd, intOf]
    rw [if_pos (by omega)]
    congr 1
  simp only [sliceB, e1, e2, ext_st, mark_drop, mark_take, Nat.add_sub_cancel_left]
  rfl
section
variable (l : List Bool) (k : Nat) (h1 : 1 ≤ l.length) (h64 : l.length ≤ 64) (hk : k ≤ 64)
include h1 h64 hk
theorem l55a (r0 : List Bool) (t0 : Nat) : ∀ (q p : Nat) (r : List Bool) (t : Nat) (W : List Nat), p + q = l.length → (W = [0, 2, 1] ∨ (W = [] ∨ W = [0]) ∧ r = r0 ∧ t = t0) →
    ∃ W', (W' = [0, 2, 1] ∨ (W' = [] ∨ W' = [0]) ∧ (smW l k q p r t).1 = r0 ∧ (smW l k q p r t).2 = t0) ∧
    lpB Try.prog LL ⟨55, 28, 5, none⟩ n55_5 n55_6 ⟨[(0, .func (.yield 0) #[] #[]), (2, pp 4), (4, rwV (longB l k)), (14, pp 5)], [.loop (lp15 2 1), intB t, strB r, strB l, intB k, .siter ⟨(markU l).toArray⟩ p], W⟩ =
      some (.exit 0, ⟨[], [.loop (lp15 2 1), intB (smW l k q p r t).2, strB (smW l k q p r t).1, strB l, intB k], W'⟩) := by
  intro q
  induction q with
  | zero =>
    intro p r t W hp hW
    refine ⟨W, ?_, ?_⟩
    · simp only [smW]; exact hW
    have n1 := @next_end [.loop (lp15 2 1), intB t, strB r, strB l, intB k, .siter ⟨(markU l).toArray⟩ p] 5 p l rfl (by omega)
    simp only [smW, lp15] at n1 ⊢
    generalize (⟨(markU l).toArray⟩ : ByteArray) = s at *
    rw [lpB_eq]
    rcases hW with rfl | ⟨rfl | rfl, _⟩ <;>
    simp (maxSteps := 1000000) (disch := first | omega | decide | assumption | simp [scal]) [loadA_eq ia_9, loadA_eq ia_3, siter_ptr, siter_ren, o_nextT, n1, ptrB, renB]
  | succ q ih =>
    intro p r t W hp hW
    have hpl : p < l.length := by omega
    have n1 := @next_row [.loop (lp15 2 1), intB t, strB r, strB l, intB k, .siter ⟨(markU l).toArray⟩ p] 5 p l rfl hpl
    have s1 := fun h => @slice_win l k p hpl h
    have w1 : IntKind.i64.wrap ((p : Int) + (k : Int)) = (p : Int) + k := wrap_i64_id (by omega) (by omega)
    have y1 := y15 p t (winB l k p) r [strB l, intB k, .siter ⟨(markU l).toArray⟩ (p + 1)]
    simp only [smW]
    rcases Bool.eq_false_or_eq_true (lessB (winB l k p) r) with h | h
    · obtain ⟨W', g1, g2⟩ := ih (p + 1) (winB l k p) p [0, 2, 1] (by omega) (.inl rfl)
      rw [if_pos h] at y1
      simp only [if_pos h]
      refine ⟨W', g1, ?_⟩
      clear g1 ih
      simp only [lp15, List.set_cons_succ, List.set_cons_zero] at n1 y1 g2 ⊢
      generalize smW l k q (p + 1) (winB l k p) p = Z at *
      generalize (⟨(markU l).toArray⟩ : ByteArray) = s at *
      generalize ((cond (l.getD p false) 49 48 : Nat) : Int) = rr at *
      generalize winB l k p = w at *
      rw [show rwV (longB l k) = .string ⟨(markU (longB l k)).toArray⟩ from rfl] at g2 ⊢
      generalize (⟨(markU (longB l k)).toArray⟩ : ByteArray) = ls at *
      rw [lpB_eq]
      rcases hW with rfl | ⟨rfl | rfl, _⟩ <;>
      simp (maxSteps := 1000000) (disch := first | omega | decide | assumption | simp [scal]) [loadA_eq ia_9, loadA_eq ia_3, siter_ptr, siter_ren, o_nextT, n1, ptrB, renB, o_sliceT, s1, w1, y1, callV_y, g2, addWr, ins]
    · obtain ⟨W', g1, g2⟩ := ih (p + 1) r t (match W with | [] => [0] | w => w) (by omega) (by
        rcases hW with rfl | ⟨rfl | rfl, a, b⟩
        · exact .inl rfl
        · exact .inr ⟨.inr rfl, a, b⟩
        · exact .inr ⟨.inr rfl, a, b⟩)
      rw [if_neg (by simp [h])] at y1
      simp only [h, Bool.false_eq_true, if_false]
      refine ⟨W', g1, ?_⟩
      clear g1 ih
      simp only [lp15, List.set_cons_succ, List.set_cons_zero] at n1 y1 g2 ⊢
      generalize smW l k q (p + 1) r t = Z at *
      generalize (⟨(markU l).toArray⟩ : ByteArray) = s at *
      generalize ((cond (l.getD p false) 49 48 : Nat) : Int) = rr at *
      generalize winB l k p = w at *
      rw [show rwV (longB l k) = .string ⟨(markU (longB l k)).toArray⟩ from rfl] at g2 ⊢
      generalize (⟨(markU (longB l k)).toArray⟩ : ByteArray) = ls at *
      rw [lpB_eq]
      rcases hW with rfl | ⟨rfl | rfl, _⟩ <;>
      simp only [] at g2 <;>
      simp (maxSteps := 1000000) (disch := first | omega | decide | assumption | simp [scal]) [loadA_eq ia_9, loadA_eq ia_3, siter_ptr, siter_ren, o_nextT, n1, ptrB, renB, o_sliceT, s1, w1, y1, callV_y, g2, addWr, ins]
end
end Go.Proofs.Ytjimphlkhjmaiaa.sw
namespace Go.Proofs.Ytjimphlkhjmaiaa.sw
open Go.GE
set_option linter.unusedVariables false
set_option linter.unusedSimpArgs false
set_option linter.unusedSectionVars false
set_option maxRecDepth 100000
set_option maxHeartbeats 4000000
attribute [local simp] runOps_nil runOps_cons runOpsF_nil runOpsF_cons fstS_some fstF_some opStep_eq want_none oStep_true oStep_false fin_pure fin_read fin_alloc fin_write storeB wrN cellV addWr o_move o_assign o_pick o_alloc o_box o_load o_store o_nilCheck o_bin o_un o_extract o_callV o_callB o_callI callV_f callV_y callV_fc o_makeFunc partsA Instr.fill builtin_len builtin_max2 bin_add bin_sub bin_mul bin_quo bin_rem bin_lss bin_leq bin_gtr bin_geq bin_eql bin_neq un_neg un_not bin_shr bin_shl wrap_u64_id opd opds optAll putO nbeq nblt constOk isC ops sub cl cr co bodyOf thenS_normal thenS_ret thenS_exit thenS_goto afterN_normal afterN_ret afterN_exit afterN_goto condS_true condS_false blockS_normal blockS_ret blockS_exit blockS_goto headS normS normK_eq fixS_nil fixS_cons fix1 fixV emptyB keepO_nil keepO_cons roundC_normal roundC_exit roundC_ret roundC_goto sweep_eq sweepD rnm pickR pickW rootsB ptrT renT ptrFn renFn ptrB_flat ptrB_non renB_flat renB_non plainS_some drawS_some fpsOk disj unord range' dropTo enumT undef wrap_i64_id Value.cells mkCells ptrTo scal cellsAt rdN endS_ret resultsA Option.bind_some tupV finish reachN dep ptrL_eq ptrL renL_eq renL ptrV_bool ptrV_int ptrV_string ptrV_nilFunc ptrV_nilIface ptrV_nilPtr ptrV_ptr ptrV_nilSl ptrV_sl ptrV_iface ptrV_agg ptrV_tuple ptrV_func renV_bool renV_int renV_string renV_nilFunc renV_nilIface renV_nilPtr renV_ptr renV_nilSl renV_sl renV_iface renV_agg renV_tuple renV_func gotoS_goto gotoS_normal gotoS_exit gotoS_ret skip_seq sliceE bnd bndHi intOf optOpd keepT_nil keepT_cons keepC_t keepC_f lk_nil lk_cons lkC_t lkC_f has_nil has_cons hasC_t hasC_f rep_nil rep_cons repC_t repC_f put_eq putC_t putC_f mem_nil mem_cons memC_t memC_f idx_nil idx_cons idxC_t idxC_f reach_nil reachP_cons reachQ_t reachQ_f ptrB_dead renB_dead ins_eq
attribute [local simp] n55_1s n55_3s n55_7s n55_10s n55_11s n55_9s n55_14s n55_16s n55_18s n55_19s n55_17s n55_15s n55_13s n55_12s n55_8s n55_6s n55_5s n55_5g n55_4s n55_2s n55_0s Try.f55 n15_1s n15_4s n15_6s n15_9s n15_10s n15_8s n15_11s n15_7s n15_5s n15_3s n15_13s n15_16s n15_20s n15_21s n15_19s n15_24s n15_26s n15_27s n15_25s n15_23s n15_22s n15_17s n15_15s n15_29s n15_30s n15_28s n15_14s n15_12s n15_2s n15_0s Try.f15
section
variable (l : List Bool) (k : Nat) (h1 : 1 ≤ l.length) (h64 : l.length ≤ 64) (hk : k ≤ 64)
include h1 h64 hk
theorem c55a (r : List Bool) (t : Nat) :
    ∃ ws, (ws = [(0, .loop (lp15 2 1)), (2, strB (smW l k l.length 0 r t).1), (1, intB (smW l k l.length 0 r t).2)] ∨ (ws = [] ∨ ws = [(0, .loop (lp15 2 1))]) ∧ (smW l k l.length 0 r t).1 = r ∧ (smW l k l.length 0 r t).2 = t) ∧
    LL.run 55 [.func (.yield 0) #[] #[], pp 3, pp 4] [.loop (lp15 2 1), intB t, strB r, strB l, intB k] = some ⟨.tuple #[], [], ws⟩ := by
  obtain ⟨W, hW, this⟩ := l55a l k h1 h64 hk r t l.length 0 r t [] (by omega) (.inr ⟨.inl rfl, rfl, rfl⟩)
  have d1 : ((k : Int).tdiv (l.length : Int)) = ((k / l.length : Nat) : Int) := rfl
  have hd : k / l.length ≤ k := Nat.div_le_self _ _
  have w1 : IntKind.i64.wrap ((k / l.length : Nat) : Int) = ((k / l.length : Nat) : Int) := wrap_nn (by omega)
  have w2 : IntKind.i64.wrap (2 + ((k / l.length : Nat) : Int)) = ((2 + k / l.length : Nat) : Int) := by rw [show (2 : Int) + ((k / l.length : Nat) : Int) = ((2 + k / l.length : Nat) : Int) from (by simp)]; exact wrap_nn (by omega)
  have a1 : ∀ h, callH LL 56 [rwV l, iv (2 + ((k / l.length : Nat) : Int))] h = some ⟨rwV (repB l (2 + k / l.length)), h, [], []⟩ := fun h => by
    have := k56 l (2 + k / l.length) (by omega) (by omega) h
    rw [show ((2 + k / l.length : Nat) : Int) = (2 : Int) + ((k / l.length : Nat) : Int) from (by simp)] at this
    exact this
  have a2 : ∀ h, lenA Try.prog h 9 (.string ⟨(markU l).toArray⟩) = some (iv (markU l).length, []) := fun h => @lenA_st h (markU l)
  have hz : ¬ ((l.length : Int) = 0) := by omega
  rw [mark_len] at a2
  have key : ∀ ws, (∃ W', W' = W ∧ endS Try.prog [] 5 (some (.normal, ⟨[], [.loop (lp15 2 1), intB (smW l k l.length 0 r t).2, strB (smW l k l.length 0 r t).1, strB l, intB k], W'⟩)) = some ⟨.tuple #[], [], ws⟩) →
      LL.run 55 [.func (.yield 0) #[] #[], pp 3, pp 4] [.loop (lp15 2 1), intB t, strB r, strB l, intB k] = some ⟨.tuple #[], [], ws⟩ := by
    rintro ws ⟨W', rfl, hw⟩
    refine L_run rfl ?_
    rw [run55 _ _ _ (by simp), ← hw]
    clear hw hW
    simp only [lp15, longB] at this ⊢
    generalize repB l (2 + k / l.length) = lb at *
    generalize k / l.length = kd at *
    generalize smW l k l.length 0 r t = Z at *
    unfold strB rwV st at *
    generalize (⟨(markU l).toArray⟩ : ByteArray) = s at *
    simp (maxSteps := 1000000) (disch := first | omega | decide | assumption | simp [scal]) [loadA_eq ia_9, loadA_eq ia_3, siter_ptr, siter_ren, o_rangeT, ptrB, renB, d1, hz, w1, w2, a1, a2, this]
  rcases hW with rfl | ⟨rfl | rfl, e⟩
  · refine ⟨_, .inl rfl, key _ ⟨_, rfl, ?_⟩⟩
    simp only [lp15]
    simp [endS_normal, finish, ptrB, renB]
  · refine ⟨_, .inr ⟨.inl rfl, e⟩, key _ ⟨_, rfl, ?_⟩⟩
    simp only [lp15]
    simp [endS_normal, finish, ptrB, renB]
  · refine ⟨_, .inr ⟨.inr rfl, e⟩, key _ ⟨_, rfl, ?_⟩⟩
    simp only [lp15]
    simp [endS_normal, finish, ptrB, renB]
theorem h55 (r : List Bool) (t : Nat) :
    ∃ W, (W = [4, 0, 1] ∨ (W = [] ∨ W = [4]) ∧ (smW l k l.length 0 r t).1 = r ∧ (smW l k l.length 0 r t).2 = t) ∧
    callH LL 55 [.func (.yield 4) #[] #[], pp 2, pp 3] [strB r, intB t, strB l, intB k, .loop (lp15 0 1)] =
      some ⟨.tuple #[], [strB (smW l k l.length 0 r t).1, intB (smW l k l.length 0 r t).2, strB l, intB k, .loop (lp15 0 1)], [4, 1, 0, 2, 3], W⟩ := by
  obtain ⟨ws, hws, e⟩ := c55a l k h1 h64 hk r t
  generalize smW l k l.length 0 r t = Z at *
  have hm : ∀ q : Nat, 20 < q → reach [strB r, intB t, strB l, intB k, .loop (lp15 0 1)] 0 q [4, 2, 3] [] = [4, 1, 0, 2, 3] := by
    intro q hq
    obtain ⟨q, rfl⟩ : ∃ j, q = j + 20 := ⟨q - 20, by omega⟩
    simp [reach_cons, reachC_t, reachC_f, reach_nil, rootsB, GE.mem, nblt, nbeq, ptrB, lp15, ptrT, ptrV_ptr, ptrV_sl, ptrV_int, dep]
  have hp : ([.func (.yield 4) #[] #[], pp 2, pp 3] : List Value).flatMap (ptrV dep) = [4, 2, 3] := rfl
  have key : ∀ rr, LL.run 55 [.func (.yield 0) #[] #[], pp 3, pp 4] [.loop (lp15 2 1), intB t, strB r, strB l, intB k] = some rr →
      callH0 LL 55 [.func (.yield 4) #[] #[], pp 2, pp 3] [strB r, intB t, strB l, intB k, .loop (lp15 0 1)] =
        mergeB [strB r, intB t, strB l, intB k, .loop (lp15 0 1)] [4, 1, 0, 2, 3] rr := by
    intro rr hrr
    unfold callH0
    simp only [hp, hm reachN (by decide)]
    simp only [lp15] at hrr ⊢
    simp [optAll, renV_func, renFn, renL, renV_ptr, dep, idx, nbeq, renB, renT, renL_eq, renV_int, renV_sl, hrr]
  rcases hws with rfl | ⟨rfl | rfl, z1, z2⟩
  · refine ⟨_, .inl rfl, callH_of (by intro _; first | trivial | rfl) ?_ (by simp)⟩
    rw [key _ e]
    simp only [lp15]
    simp [mergeB, renV_tuple, renL, dep, optAll, renB, renT, renV_ptr, nblt]
  · refine ⟨_, .inr ⟨.inl rfl, z1, z2⟩, callH_of (by intro _; first | trivial | rfl) ?_ (by simp)⟩
    rw [key _ e, z1, z2]
    simp only [lp15]
    simp [mergeB, renV_tuple, renL, dep, optAll, renB, renT, renV_ptr, nblt]
  · refine ⟨_, .inr ⟨.inr rfl, z1, z2⟩, callH_of (by intro _; first | trivial | rfl) ?_ (by simp)⟩
    rw [key _ e, z1, z2]
    simp only [lp15]
    simp [mergeB, renV_tuple, renL, dep, optAll, renB, renT, renV_ptr, nblt]
end
/-- the smallest turn, and where it is met first -/
def smT (l : List Bool) : List Bool × Nat := smW l l.length l.length 0 l 0
theorem k15 (l : List Bool) (h1 : 1 ≤ l.length) (h64 : l.length ≤ 64) (h : List Blk) : callH LL 15 [rwV l] h = some ⟨.tuple #[rwV (smT l).1, iv (smT l).2, iv 0], h, [], []⟩ := by
  refine callH_none rfl (fun _ => rfl) (L_run rfl ?_) fun _ => rfl
  obtain ⟨W, hW, e⟩ := h55 l l.length h1 h64 h64 l 0
  have c1 := fun h => k22 l h1 h64 h
  have c2 := fun h => k40 l l.length h
  have a2 : ∀ h, lenA Try.prog h 9 (.string ⟨(markU l).toArray⟩) = some (iv (markU l).length, []) := fun h => @lenA_st h (markU l)
  rw [mark_len] at a2
  unfold smT
  rw [run15 _ _ _ (by simp)]
  unfold intB at e
  simp only [lp15, Int.natCast_zero] at e
  generalize smW l l.length l.length 0 l 0 = Z at *
  simp (maxSteps := 1000000) (disch := first | omega | decide | assumption | simp [scal]) [za_9, za_3, sz_9, sz_3, loadA_eq ia_9, loadA_eq ia_3, c1, c2, a2]
  rw [range_step n15_18e n15_18k rfl]
  simp (maxSteps := 1000000) (disch := first | omega | decide | assumption | simp [scal]) [za_9, za_3, sz_9, sz_3, loadA_eq ia_9, loadA_eq ia_3, e]
  rw [rangeE_ready rfl rfl rfl]
  rcases hW with rfl | ⟨rfl | rfl, _, _⟩ <;>
  simp (maxSteps := 1000000) (disch := first | omega | decide | assumption | simp [scal]) [za_9, za_3, sz_9, sz_3, loadA_eq ia_9, loadA_eq ia_3, addWr]
end Go.Proofs.Ytjimphlkhjmaiaa.sw
namespace Go.Proofs.Ytjimphlkhjmaiaa.sw
open Go.GE
set_option linter.unusedVariables false
set_option linter.unusedSimpArgs false
set_option linter.unusedSectionVars false
set_option maxRecDepth 100000
set_option maxHeartbeats 4000000
attribute [local simp] runOps_nil runOps_cons runOpsF_nil runOpsF_cons fstS_some fstF_some opStep_eq want_none oStep_true oStep_false fin_pure fin_read fin_alloc fin_write storeB wrN cellV addWr o_move o_assign o_pick o_alloc o_box o_load o_store o_nilCheck o_bin o_un o_extract o_callV o_callB o_callI callV_f callV_y callV_fc o_makeFunc partsA Instr.fill builtin_len builtin_max2 bin_add bin_sub bin_mul bin_quo bin_rem bin_lss bin_leq bin_gtr bin_geq bin_eql bin_neq un_neg un_not bin_shr bin_shl wrap_u64_id opd opds optAll putO nbeq nblt constOk isC ops sub cl cr co bodyOf thenS_normal thenS_ret thenS_exit thenS_goto afterN_normal afterN_ret afterN_exit afterN_goto condS_true condS_false blockS_normal blockS_ret blockS_exit blockS_goto headS normS normK_eq fixS_nil fixS_cons fix1 fixV emptyB keepO_nil keepO_cons roundC_normal roundC_exit roundC_ret roundC_goto sweep_eq sweepD rnm pickR pickW rootsB ptrT renT ptrFn renFn ptrB_flat ptrB_non renB_flat renB_non plainS_some drawS_some fpsOk disj unord range' dropTo enumT undef wrap_i64_id Value.cells mkCells ptrTo scal cellsAt rdN endS_ret resultsA Option.bind_some tupV finish reachN dep ptrL_eq ptrL renL_eq renL ptrV_bool ptrV_int ptrV_string ptrV_nilFunc ptrV_nilIface ptrV_nilPtr ptrV_ptr ptrV_nilSl ptrV_sl ptrV_iface ptrV_agg ptrV_tuple ptrV_func renV_bool renV_int renV_string renV_nilFunc renV_nilIface renV_nilPtr renV_ptr renV_nilSl renV_sl renV_iface renV_agg renV_tuple renV_func gotoS_goto gotoS_normal gotoS_exit gotoS_ret skip_seq sliceE bnd bndHi intOf optOpd keepT_nil keepT_cons keepC_t keepC_f lk_nil lk_cons lkC_t lkC_f has_nil has_cons hasC_t hasC_f rep_nil rep_cons repC_t repC_f put_eq putC_t putC_f mem_nil mem_cons memC_t memC_f idx_nil idx_cons idxC_t idxC_f reach_nil reachP_cons reachQ_t reachQ_f ptrB_dead renB_dead ins_eq
attribute [local simp] n33_1s n33_3s n33_5s n33_8s n33_12s n33_15s n33_16s n33_14s n33_20s n33_21s n33_19s n33_18s n33_22s n33_17s n33_13s n33_11s n33_10s n33_10g n33_9s n33_7s n33_24s n33_25s n33_23s n33_6s n33_4s n33_2s n33_0s Try.f33 n34_1s n34_4s n34_9s n34_11s n34_12s n34_10s n34_8s n34_16s n34_19s n34_20s n34_18s n34_21s n34_17s n34_15s n34_14s n34_22s n34_13s n34_7s n34_6s n34_6g n34_5s n34_3s n34_24s n34_25s n34_23s n34_2s n34_0s Try.f34
abbrev lpV (B C : Nat) : Value := .agg #[.int .u64 (B : Int), uv C]
theorem wrap_u64 {a : Nat} (h : a < 2 ^ 64) : IntKind.u64.wrap (a : Int) = a := by
  simp [IntKind.wrap, IntKind.bits, IntKind.signed]; omega
theorem bin_and1u {P : Program} {t : TypeId} {c : Bool} {w : Nat} (h : w < 2 ^ 64) : binA P .and t c (.int .u64 (w : Int)) (.int .u64 1) = some (.int .u64 ((w % 2 : Nat) : Int)) := by
  have e : (BitVec.ofInt 64 (w : Int) &&& BitVec.ofInt 64 1).toNat = w % 2 := by
    rw [BitVec.ofInt_natCast]
    rw [show BitVec.ofInt 64 1 = BitVec.ofNat 64 1 from rfl, BitVec.toNat_and, BitVec.toNat_ofNat, BitVec.toNat_ofNat, Nat.mod_eq_of_lt (by omega), Nat.mod_eq_of_lt (by decide : 1 < 2 ^ 64), Nat.and_one_is_mod]
  have e' : IntKind.u64.wrap ((BitVec.ofInt 64 (w : Int) &&& BitVec.ofInt 64 1).toNat : Int) = ((w % 2 : Nat) : Int) := by rw [e]; exact wrap_u64 (by omega)
  show some (Value.int .u64 (IntKind.u64.wrap ((BitVec.ofInt 64 (w : Int) &&& BitVec.ofInt 64 1).toNat : Int))) = _
  rw [e']
theorem fdiv_powu {w i : Nat} (hi : i < 64) : ((w : Int).fdiv (2 ^ min i IntKind.u64.bits)) = ((w / 2 ^ i : Nat) : Int) := by
  rw [show min i IntKind.u64.bits = i from Nat.min_eq_left (Nat.le_of_lt hi), Int.fdiv_eq_ediv_of_nonneg _ (by exact_mod_cast Nat.zero_le _)]
  simp
theorem l33 (B C n : Nat) (hB : B < 2 ^ 64) (n64 : n ≤ 64) : ∀ (q i : Nat), i + q = n →
    lpB Try.prog LL ⟨33, 41, 0, none⟩ n33_10 n33_11 ⟨[(3, pp 0), (8, sl 1 0 n n), (23, iv n), (24, iv i)], [.cells [.int .u64 (B : Int), uv C] 1 true true, .cells (fillV (bitL B i) q) 1 true true], []⟩ =
      some (.exit 0, ⟨[(8, sl 0 0 n n)], [.cells (markV (bitL B n)) 1 true true], []⟩) := by
  intro q
  induction q with
  | zero =>
    intro i hi
    obtain rfl : i = n := by omega
    have : fillV (bitL B i) 0 = markV (bitL B i) := by simp [fillV]
    rw [this]
    generalize markV (bitL B i) = F
    rw [lpB_eq]
    simp (maxSteps := 1000000) (disch := first | omega | decide | assumption | simp [scal]) [o_fieldAddr fa_46_1 (by decide), loadA_eq ia_5, o_convI cv_5_3, lenA_sl lk_51, o_fieldAddr fa_46_0 (by decide), loadA_eq ia_44, o_convI cv_44_5, o_indexAddrS es_51, sz_5]
  | succ q ih =>
    intro i hi
    have e1 : i < n := by omega
    have e2 : (i : Int) < n := by omega
    have this := ih (i + 1) (by omega)
    simp only [cast1] at this
    have t1 : Int.tmod (i : Int) 64 = (i : Int) := by
      show ((i % 64 : Nat) : Int) = i
      rw [Nat.mod_eq_of_lt (by omega)]
    have f1 := @fdiv_powu B i (by omega)
    have hy : B / 2 ^ i < 2 ^ 64 := Nat.lt_of_le_of_lt (Nat.div_le_self _ _) (by omega)
    have hset : ∀ v, v = uv (cond (decide (B / 2 ^ i % 2 = 1)) 49 48) → (fillV (bitL B i) (q + 1)).set i v = fillV (bitL B (i + 1)) q := fun v hv => by
      have := @fillV_set (bitL B i) q _ v hv
      rw [bitL_len, ← bitL_succ] at this
      exact this
    have hlen : (fillV (bitL B i) (q + 1)).length = n := by rw [fillV_len, bitL_len]; omega
    generalize B / 2 ^ i = y at *
    have f2 := fun c => @bin_and1u Try.prog 44 c y hy
    obtain ⟨r, hr⟩ : ∃ r, y % 2 = r := ⟨_, rfl⟩
    have r2 : r ≤ 1 := by omega
    rw [hr] at hset f2
    have w0 : IntKind.i64.wrap (i : Int) = i := wrap_nn (by omega)
    have w1 : IntKind.u64.wrap (48 + (r : Int)) = 48 + (r : Int) := by simp [IntKind.wrap, IntKind.bits, IntKind.signed]; omega
    have w2 : IntKind.u8.wrap (48 + (r : Int)) = 48 + (r : Int) := by simp [IntKind.wrap, IntKind.bits, IntKind.signed]; omega
    have hset := hset (.int .u8 (48 + (r : Int))) (by
      have : r = 0 ∨ r = 1 := by omega
      rcases this with rfl | rfl <;> rfl)
    generalize fillV (bitL B i) (q + 1) = F at *
    generalize fillV (bitL B (i + 1)) q = F' at *
    have e3 : i < F.length := by omega
    clear ih
    rw [lpB_eq]
    simp (maxSteps := 1000000) (disch := first | omega | decide | assumption | simp [scal]) [o_fieldAddr fa_46_1 (by decide), loadA_eq ia_5, o_convI cv_5_3, lenA_sl lk_51, o_fieldAddr fa_46_0 (by decide), loadA_eq ia_44, o_convI cv_44_5, o_indexAddrS es_51, sz_5, e1, e2, e3, t1, f1, f2, w0, w1, w2, hset, this]
theorem k33 (B C : Nat) (hB : B < 2 ^ 64) (hC : C < 256) (h : List Blk) : callH LL 33 [lpV B C, iv 1, iv 64] h = some ⟨rwV (bitL B (1 + C % 64)), h, [], []⟩ := by
  refine callH_none rfl (fun _ => rfl) (L_run rfl ?_) fun _ => rfl
  have ht : Int.tmod (C : Int) 64 = ((C % 64 : Nat) : Int) := rfl
  have w0 : IntKind.i64.wrap (C : Int) = C := wrap_nn (by omega)
  obtain ⟨n, hn⟩ : ∃ n, 1 + C % 64 = n := ⟨_, rfl⟩
  have w2 : IntKind.i64.wrap (1 + ((C % 64 : Nat) : Int)) = (n : Int) := by rw [wrap_i64_id (by omega) (by omega)]; omega
  have hn1 : 1 ≤ n ∧ n ≤ 64 := by omega
  rw [hn]
  have lp := l33 B C n hB hn1.2 n 0 (by omega)
  have hf : fillV (bitL B 0) n = List.replicate n (uv 0) := by simp [fillV, bitL, markV]
  rw [hf] at lp
  simp only [Int.natCast_zero] at lp
  have c1 := @conS_mark [.cells (markV (bitL B n)) 1 true true] 0 n 1 (bitL B n) true true rfl bitL_len hn1.1
  generalize C % 64 = r at *
  generalize markV (bitL B n) = F at *
  have m1 : (n : Int) ≤ 70368744177664 := by omega
  rw [run33 _ _ _ (by simp)]
  simp (maxSteps := 1000000) (disch := first | omega | decide | assumption | simp [scal]) [o_fieldAddr fa_46_1 (by decide), loadA_eq ia_5, o_convI cv_5_3, lenA_sl lk_51, o_fieldAddr fa_46_0 (by decide), loadA_eq ia_44, o_convI cv_44_5, o_indexAddrS es_51, sz_5, ht, w0, w2, mk51, allocR, m1, lp, o_conT, c1]
def barR (l : List Bool) : Nat → Nat → Bool
  | 0, _ => true
  | q + 1, t => lessB l (turnB l t) && barR l q (t + 1)
theorem l34 (l : List Bool) (h64 : l.length ≤ 64) : ∀ (q t : Nat), t + q = l.length → 1 ≤ t →
    lpB Try.prog LL ⟨34, 18, 0, none⟩ n34_6 n34_7 ⟨[(0, rwV l), (3, iv t)], [], []⟩ =
      if barR l q t = true then some (.exit 0, ⟨[(0, rwV l)], [], []⟩) else some (.ret, ⟨[(2, .bool false)], [], []⟩) := by
  have a2 := fun h => @lenA_st h (markU l)
  rw [mark_len] at a2
  intro q
  induction q with
  | zero =>
    intro t ht h1
    have e1 : ¬ t < l.length := by omega
    have e2 : ¬ (t : Int) < (l.length : Int) := by omega
    simp only [barR, if_true]
    rw [lpB_eq]
    simp (maxSteps := 1000000) (disch := first | omega | decide | assumption | simp [scal]) [a2, e1, e2]
  | succ q ih =>
    intro t ht h1
    have e1 : t < l.length := by omega
    have e2 : (t : Int) < (l.length : Int) := by omega
    have this := ih (t + 1) (by omega) (by omega)
    simp only [cast1] at this
    have c2 := fun h => k35 l t (by omega) (by omega) h
    have c3 := fun c => @bin_geqs 9 c (markU l) (markU (turnB l t))
    rw [less_mark] at c3
    simp only [barR]

    clear ih
    rcases Bool.eq_false_or_eq_true (lessB l (turnB l t)) with h | h
    · rw [h] at c3
      simp only [h, Bool.true_and]
      rw [← this]
      clear this
      have this := Eq.refl (lpB Try.prog LL ⟨34, 18, 0, none⟩ n34_6 n34_7 ⟨[(0, rwV l), (3, .int .i64 ((t : Int) + 1))], [], []⟩)
      conv => lhs; rw [lpB_eq]
      simp (maxSteps := 1000000) (disch := first | omega | decide | assumption | simp [scal]) [a2, c2, c3, e1, e2]
    · rw [h] at c3
      simp only [h, Bool.false_and, Bool.false_eq_true, if_false]
      rw [lpB_eq]
      simp (maxSteps := 1000000) (disch := first | omega | decide | assumption | simp [scal]) [a2, c2, c3, e1, e2]
theorem k34 (l : List Bool) (h1 : 1 ≤ l.length) (h64 : l.length ≤ 64) (h : List Blk) : callH LL 34 [rwV l] h = some ⟨.bool (barR l (l.length - 1) 1), h, [], []⟩ := by
  refine callH_none rfl (fun _ => rfl) (L_run rfl ?_) fun _ => rfl
  have lp := l34 l h64 (l.length - 1) 1 (by omega) (by omega)
  have a2 := fun h => @lenA_st h (markU l)
  rw [mark_len] at a2
  have e2 : (0 : Int) < (l.length : Int) := by omega
  have e3 : 0 < l.length := by omega
  simp only [show (((1 : Nat) : Int)) = 1 from rfl] at lp
  rw [run34 _ _ _ (by simp)]
  rcases Bool.eq_false_or_eq_true (barR l (l.length - 1) 1) with w | w
  · rw [w] at lp ⊢
    simp only [if_true] at lp
    simp (maxSteps := 1000000) (disch := first | omega | decide | assumption | simp [scal]) [a2, lp, e2, e3]
  · rw [w] at lp ⊢
    simp only [Bool.false_eq_true, if_false] at lp
    simp (maxSteps := 1000000) (disch := first | omega | decide | assumption | simp [scal]) [a2, lp, e2, e3]
end Go.Proofs.Ytjimphlkhjmaiaa.sw
namespace Go.Proofs.Ytjimphlkhjmaiaa.sw
open Go.GE
set_option linter.unusedVariables false
set_option linter.unusedSimpArgs false
set_option linter.unusedSectionVars false
theorem less_irr : ∀ a, lessB a a = false := by
  intro a
  induction a with
  | nil => rfl
  | cons x a ih => cases x <;> simp [lessB, ih]
theorem less_tr : ∀ {a b c}, lessB a b = true → lessB b c = true → lessB a c = true := by
  intro a
  induction a with
  | nil =>
    intro b c h1 h2
    cases c with
    | nil => cases b <;> simp [lessB] at h2
    | cons => rfl
  | cons x a ih =>
    intro b c h1 h2
    cases b with
    | nil => simp [lessB] at h1
    | cons y b => cases c with
      | nil => simp [lessB] at h2
      | cons z c => cases x <;> cases y <;> cases z <;> simp [lessB] at h1 h2 ⊢ <;> exact ih h1 h2
theorem less_tri : ∀ {a b}, lessB a b = false → lessB b a = false → a = b := by
  intro a
  induction a with
  | nil => intro b h1 h2; cases b with
    | nil => rfl
    | cons => simp [lessB] at h1
  | cons x a ih => intro b h1 h2; cases b with
    | nil => simp [lessB] at h2
    | cons y b => cases x <;> cases y <;> simp [lessB] at h1 h2 ⊢ <;> exact ih h1 h2
theorem turn_len {l : List Bool} {t : Nat} (h : t ≤ l.length) : (turnB l t).length = l.length := by simp [turnB]; omega
theorem turn_get {l : List Bool} {j k : Nat} (hj : j ≤ l.length) (hk : k < l.length) : (turnB l j)[k]? = l[(k + j) % l.length]? := by
  unfold turnB
  by_cases h : k < l.length - j
  · rw [List.getElem?_append_left (by simp; exact h), List.getElem?_drop, Nat.mod_eq_of_lt (by omega), Nat.add_comm]
  · rw [List.getElem?_append_right (by simp; omega), List.length_drop, List.getElem?_take, if_pos (by omega)]
    congr 1
    rw [show k + j = (k + j - l.length) + l.length by omega, Nat.add_mod_right, Nat.mod_eq_of_lt (by omega)]
    omega
theorem turn_turn {l : List Bool} {i j : Nat} (h1 : 1 ≤ l.length) (hj : j ≤ l.length) (hi : i ≤ l.length) : turnB (turnB l j) i = turnB l ((i + j) % l.length) := by
  have hm : (i + j) % l.length < l.length := Nat.mod_lt _ h1
  apply List.ext_getElem?
  intro k
  by_cases hk : k < l.length
  · rw [turn_get (by rw [turn_len hj]; exact hi) (by rw [turn_len hj]; exact hk), turn_len hj, turn_get hj (Nat.mod_lt _ h1), turn_get (Nat.le_of_lt hm) hk]
    congr 1
    rw [Nat.mod_add_mod, Nat.add_mod_mod, Nat.add_assoc]
  · rw [List.getElem?_eq_none (by rw [turn_len (by rw [turn_len hj]; exact hi), turn_len hj]; omega), List.getElem?_eq_none (by rw [turn_len (Nat.le_of_lt hm)]; omega)]
theorem turn_zero {l : List Bool} : turnB l 0 = l := by simp [turnB]
theorem turn_back {l : List Bool} {t : Nat} (h1 : 1 ≤ l.length) (ht : t < l.length) : turnB (turnB l t) (l.length - t) = l := by
  rw [turn_turn h1 (Nat.le_of_lt ht) (by omega), Nat.sub_add_cancel (Nat.le_of_lt ht), Nat.mod_self, turn_zero]
theorem rep_get {l : List Bool} (h1 : 1 ≤ l.length) : ∀ (c k : Nat), k < c * l.length → (repB l c)[k]? = l[k % l.length]? := by
  intro c
  induction c with
  | zero => intro k hk; omega
  | succ c ih =>
    intro k hk
    rw [repB]
    by_cases h : k < l.length
    · rw [List.getElem?_append_left h, Nat.mod_eq_of_lt h]
    · rw [Nat.succ_mul] at hk
      rw [List.getElem?_append_right (by omega), ih _ (by omega)]
      congr 1
      rw [Nat.mod_eq_sub_mod (by omega : k ≥ l.length)]
theorem win_get {l : List Bool} {k i x : Nat} (h1 : 1 ≤ l.length) (hi : i < l.length) (hx : x < k) : (winB l k i)[x]? = l[(i + x) % l.length]? := by
  have h2 := @long_len l k i hi
  rw [repB_len] at h2
  unfold winB
  rw [List.getElem?_take, if_pos hx, List.getElem?_drop, rep_get h1 _ _ (by omega)]
theorem win_len {l : List Bool} {k i : Nat} (hi : i < l.length) : (winB l k i).length = k := by
  have h2 := @long_len l k i hi
  unfold winB
  unfold longB at h2
  rw [List.length_take, List.length_drop]
  omega
theorem win_turn {l : List Bool} {i : Nat} (hi : i < l.length) : winB l l.length i = turnB l i := by
  apply List.ext_getElem?
  intro k
  by_cases hk : k < l.length
  · rw [win_get (by omega) hi hk, turn_get (Nat.le_of_lt hi) hk, Nat.add_comm]
  · rw [List.getElem?_eq_none (by rw [win_len hi]; omega), List.getElem?_eq_none (by rw [turn_len (Nat.le_of_lt hi)]; omega)]
theorem smW_ok (l : List Bool) (h1 : 1 ≤ l.length) : ∀ (q i : Nat) (r : List Bool) (t : Nat), i + q = l.length → t ≤ i → t < l.length → r = turnB l t →
    (∀ j, j < i → lessB (turnB l j) r = false ∧ (j < t → turnB l j ≠ r)) →
    (smW l l.length q i r t).2 < l.length ∧ (smW l l.length q i r t).1 = turnB l (smW l l.length q i r t).2 ∧
    ∀ j, j < l.length → lessB (turnB l j) (smW l l.length q i r t).1 = false ∧ (j < (smW l l.length q i r t).2 → turnB l j ≠ (smW l l.length q i r t).1) := by
  intro q
  induction q with
  | zero =>
    intro i r t hi ht htn hr hj
    simp only [smW]
    exact ⟨htn, hr, fun j hjn => hj j (by omega)⟩
  | succ q ih =>
    intro i r t hi ht htn hr hj
    simp only [smW]
    rw [win_turn (by omega)]
    split
    · rename_i h
      refine ih (i + 1) _ i (by omega) (by omega) (by omega) rfl fun j hji => ?_
      by_cases e : j = i
      · subst e; exact ⟨less_irr _, fun h => by omega⟩
      · have := hj j (by omega)
        refine ⟨?_, fun _ e2 => ?_⟩
        · rcases Bool.eq_false_or_eq_true (lessB (turnB l j) (turnB l i)) with w | w
          · rw [less_tr w h] at this; simp at this
          · exact w
        · rw [e2, h] at this; simp at this
    · rename_i h
      refine ih (i + 1) r t (by omega) (by omega) htn hr fun j hji => ?_
      by_cases e : j = i
      · subst e; exact ⟨by simpa using h, fun h => by omega⟩
      · exact hj j (by omega)
theorem smT_ok (l : List Bool) (h1 : 1 ≤ l.length) : (smT l).2 < l.length ∧ (smT l).1 = turnB l (smT l).2 ∧
    ∀ j, j < l.length → lessB (turnB l j) (smT l).1 = false ∧ (j < (smT l).2 → turnB l j ≠ (smT l).1) :=
  smW_ok l h1 l.length 0 l 0 (by omega) (by omega) (by omega) turn_zero.symm fun j hj => by omega
theorem smT_turn (l : List Bool) (h1 : 1 ≤ l.length) (j : Nat) (hj : j < l.length) : (smT (turnB l j)).1 = (smT l).1 := by
  have hl : (turnB l j).length = l.length := turn_len (Nat.le_of_lt hj)
  obtain ⟨a1, a2, a3⟩ := smT_ok l h1
  obtain ⟨b1, b2, b3⟩ := smT_ok (turnB l j) (by omega)
  rw [hl] at b1 b3
  apply less_tri
  · rw [b2, turn_turn h1 (Nat.le_of_lt hj) (Nat.le_of_lt b1)]
    exact (a3 _ (Nat.mod_lt _ h1)).1
  · have e : (smT l).1 = turnB (turnB l j) (((smT l).2 + (l.length - j)) % l.length) := by
      rw [turn_turn h1 (Nat.le_of_lt hj) (Nat.le_of_lt (Nat.mod_lt _ h1)), Nat.mod_add_mod, show (smT l).2 + (l.length - j) + j = (smT l).2 + l.length by omega, Nat.add_mod_right, Nat.mod_eq_of_lt a1]
      exact a2
    rw [e]
    exact (b3 _ (Nat.mod_lt _ h1)).1
def aloneR (l : List Bool) : Nat → Nat → Bool → Bool
  | 0, _, a => a
  | q + 1, i, a => aloneR l q (i + 1) (a && (decide (i = 0) || !decide (turnB l i = l)))
theorem alone_ok (l : List Bool) : ∀ (q i : Nat) (a : Bool), aloneR l q i a = true ↔ a = true ∧ ∀ j, i ≤ j → j < i + q → j = 0 ∨ turnB l j ≠ l := by
  intro q
  induction q with
  | zero => intro i a; simp only [aloneR]; exact ⟨fun h => ⟨h, fun j h1 h2 => by omega⟩, fun h => h.1⟩
  | succ q ih =>
    intro i a
    simp only [aloneR, ih, Bool.and_eq_true, Bool.or_eq_true, decide_eq_true_eq, Bool.not_eq_true', decide_eq_false_iff_not]
    constructor
    · rintro ⟨⟨h1, h2⟩, h3⟩
      refine ⟨h1, fun j ha hb => ?_⟩
      by_cases e : j = i
      · subst e; exact h2
      · exact h3 j (by omega) (by omega)
    · rintro ⟨h1, h2⟩
      exact ⟨⟨h1, h2 i (by omega) (by omega)⟩, fun j ha hb => h2 j (by omega) (by omega)⟩
theorem bar_ok (l : List Bool) : ∀ (q t : Nat), barR l q t = true ↔ ∀ j, t ≤ j → j < t + q → lessB l (turnB l j) = true := by
  intro q
  induction q with
  | zero => intro t; simp only [barR]; exact ⟨fun _ j h1 h2 => by omega, fun _ => trivial⟩
  | succ q ih =>
    intro t
    simp only [barR, Bool.and_eq_true, ih]
    constructor
    · rintro ⟨h1, h2⟩ j ha hb
      by_cases e : j = t
      · subst e; exact h1
      · exact h2 j (by omega) (by omega)
    · intro h
      exact ⟨h t (by omega) (by omega), fun j ha hb => h j (by omega) (by omega)⟩
theorem bar_alone (l : List Bool) (h1 : 1 ≤ l.length) : barR (smT l).1 ((smT l).1.length - 1) 1 = aloneR l l.length 0 true := by
  obtain ⟨a1, a2, a3⟩ := smT_ok l h1
  have hl : (smT l).1.length = l.length := by rw [a2, turn_len (Nat.le_of_lt a1)]
  rw [hl, Bool.eq_iff_iff, bar_ok, alone_ok]
  have key : ∀ j, 1 ≤ j → j < l.length → (lessB (smT l).1 (turnB (smT l).1 j) = true ↔ turnB l j ≠ l) := by
    intro j hj1 hj
    have hx : turnB (smT l).1 j = turnB l ((j + (smT l).2) % l.length) := by
      conv => lhs; rw [a2]
      exact turn_turn h1 (Nat.le_of_lt a1) (Nat.le_of_lt hj)
    have hy := (a3 _ (Nat.mod_lt (j + (smT l).2) h1)).1
    rw [← hx] at hy
    constructor
    · intro h e
      have : turnB (smT l).1 j = (smT l).1 := by
        rw [hx, Nat.add_comm, ← turn_turn h1 (Nat.le_of_lt hj) (Nat.le_of_lt a1), e, ← a2]
      rw [this, less_irr] at h
      cases h
    · intro h
      rcases Bool.eq_false_or_eq_true (lessB (smT l).1 (turnB (smT l).1 j)) with w | w
      · exact w
      · exfalso
        have e := less_tri hy w
        apply h
        have e2 : turnB (turnB l j) (smT l).2 = turnB l (smT l).2 := by
          rw [turn_turn h1 (Nat.le_of_lt hj) (Nat.le_of_lt a1), Nat.add_comm, ← hx, e, ← a2]
        have e3 : turnB (turnB (turnB l j) (smT l).2) (l.length - (smT l).2) = turnB (turnB l (smT l).2) (l.length - (smT l).2) := by rw [e2]
        rw [turn_back h1 a1] at e3
        have hl2 : (turnB l j).length = l.length := turn_len (Nat.le_of_lt hj)
        have e4 := @turn_back (turnB l j) (smT l).2 (by omega) (by omega)
        rw [hl2] at e4
        rw [e4] at e3
        exact e3
  constructor
  · intro h
    refine ⟨rfl, fun j _ hj => ?_⟩
    by_cases e : j = 0
    · exact .inl e
    · exact .inr ((key j (by omega) (by omega)).1 (h j (by omega) (by omega)))
  · rintro ⟨_, h⟩ j h1 h2
    rcases h j (by omega) (by omega) with e | e
    · omega
    · exact (key j h1 (by omega)).2 e
end Go.Proofs.Ytjimphlkhjmaiaa.sw
namespace Go.Proofs.Ytjimphlkhjmaiaa.sw
open Go.GE
set_option linter.unusedVariables false
set_option linter.unusedSimpArgs false
set_option linter.unusedSectionVars false
set_option maxRecDepth 100000
set_option maxHeartbeats 4000000
attribute [local simp] runOps_nil runOps_cons runOpsF_nil runOpsF_cons fstS_some fstF_some opStep_eq want_none oStep_true oStep_false fin_pure fin_read fin_alloc fin_write storeB wrN cellV addWr o_move o_assign o_pick o_alloc o_box o_load o_store o_nilCheck o_bin o_un o_extract o_callV o_callB o_callI callV_f callV_y callV_fc o_makeFunc partsA Instr.fill builtin_len builtin_max2 bin_add bin_sub bin_mul bin_quo bin_rem bin_lss bin_leq bin_gtr bin_geq bin_eql bin_neq un_neg un_not bin_shr bin_shl wrap_u64_id opd opds optAll putO nbeq nblt constOk isC ops sub cl cr co bodyOf thenS_normal thenS_ret thenS_exit thenS_goto afterN_normal afterN_ret afterN_exit afterN_goto condS_true condS_false blockS_normal blockS_ret blockS_exit blockS_goto headS normS normK_eq fixS_nil fixS_cons fix1 fixV emptyB keepO_nil keepO_cons roundC_normal roundC_exit roundC_ret roundC_goto sweep_eq sweepD rnm pickR pickW rootsB ptrT renT ptrFn renFn ptrB_flat ptrB_non renB_flat renB_non plainS_some drawS_some fpsOk disj unord range' dropTo enumT undef wrap_i64_id Value.cells mkCells ptrTo scal cellsAt rdN endS_ret resultsA Option.bind_some tupV finish reachN dep ptrL_eq ptrL renL_eq renL ptrV_bool ptrV_int ptrV_string ptrV_nilFunc ptrV_nilIface ptrV_nilPtr ptrV_ptr ptrV_nilSl ptrV_sl ptrV_iface ptrV_agg ptrV_tuple ptrV_func renV_bool renV_int renV_string renV_nilFunc renV_nilIface renV_nilPtr renV_ptr renV_nilSl renV_sl renV_iface renV_agg renV_tuple renV_func gotoS_goto gotoS_normal gotoS_exit gotoS_ret skip_seq sliceE bnd bndHi intOf optOpd keepT_nil keepT_cons keepC_t keepC_f lk_nil lk_cons lkC_t lkC_f has_nil has_cons hasC_t hasC_f rep_nil rep_cons repC_t repC_f put_eq putC_t putC_f mem_nil mem_cons memC_t memC_f idx_nil idx_cons idxC_t idxC_f reach_nil reachP_cons reachQ_t reachQ_f ptrB_dead renB_dead ins_eq
attribute [local simp] n7_1s n7_3s n7_5s n7_8s n7_11s n7_12s n7_10s n7_13s n7_9s n7_7s n7_15s n7_18s n7_22s n7_25s n7_26s n7_24s n7_29s n7_31s n7_34s n7_37s n7_38s n7_36s n7_39s n7_35s n7_33s n7_40s n7_32s n7_30s n7_28s n7_27s n7_23s n7_21s n7_20s n7_20g n7_19s n7_17s n7_42s n7_44s n7_45s n7_43s n7_41s n7_16s n7_14s n7_6s n7_4s n7_2s n7_0s Try.f7
theorem sm_le (l : List Bool) (h1 : 1 ≤ l.length) (i : Nat) (hi : i < l.length) : (lessB (turnB l i) (smT l).1 || (decide (turnB l i = (smT l).1) && decide (i < (smT l).2))) = false := by
  have := (smT_ok l h1).2.2 i hi
  rw [this.1, Bool.false_or]
  by_cases h : i < (smT l).2
  · simp [this.2 h]
  · simp [h]
theorem mark_eqP {a b : List Bool} : (markU a = markU b) = (a = b) := propext ⟨markU_inj, fun h => by rw [h]⟩
section
variable (l : List Bool) (c : Nat) (h1 : 1 ≤ l.length) (h64 : l.length ≤ 64)
include h1 h64
theorem l7 : ∀ (q p : Nat) (a : Bool), p + q = l.length →
    lpB Try.prog LL ⟨7, 101, 0, none⟩ n7_20 n7_21 ⟨[(1, uv c), (5, rwV l), (6, rwV (smT l).1), (7, iv (smT l).2), (9, .bool a), (43, pp 0)], [.siter ⟨(markU l).toArray⟩ p], []⟩ =
      some (.exit 0, ⟨[(1, uv c), (5, rwV l), (6, rwV (smT l).1), (9, .bool (aloneR l q p a))], [], []⟩) := by
  intro q
  induction q with
  | zero =>
    intro p a hp
    have n1 := @next_end [.siter ⟨(markU l).toArray⟩ p] 0 p l rfl (by omega)
    simp only [aloneR]
    unfold rwV st at *
    generalize (⟨(markU l).toArray⟩ : ByteArray) = s at *
    rw [lpB_eq]
    simp (maxSteps := 1000000) (disch := first | omega | decide | assumption | simp [scal]) [loadA_eq ia_46, o_convI cv_5_3, want_some q7_8g2, want_some q7_8g6, want_some q7_8g12, want_some q7_34g3, want_some q7_34g7, want_some q7_40g1, want_some q7_40g4, want_some q7_44g2, want_some q7_44g7, want_some q7_44g13, siter_ptr, siter_ren, o_nextT, n1]
  | succ q ih =>
    intro p a hp
    have hpl : p < l.length := by omega
    have n1 := @next_row [.siter ⟨(markU l).toArray⟩ p] 0 p l rfl hpl
    have this := ih (p + 1) (a && (decide (p = 0) || !decide (turnB l p = l))) (by omega)
    have c2 := fun h => k35 l p (by omega) (by omega) h
    have d0 := sm_le l h1 p hpl
    have d1 := fun c => @bin_lsss 9 c (markU (turnB l p)) (markU (smT l).1)
    have d2 := fun c => @bin_eqls 9 c (markU (turnB l p)) (markU (smT l).1)
    have d3 := fun c => @bin_neqs 9 c (markU (turnB l p)) (markU l)
    rw [less_mark] at d1
    simp only [mark_eqP] at d2 d3
    simp only [aloneR]
    simp only [List.set_cons_zero] at n1
    generalize aloneR l q (p + 1) (a && (decide (p = 0) || !decide (turnB l p = l))) = A at *
    generalize ((cond (l.getD p false) 49 48 : Nat) : Int) = rr at *
    clear ih
    obtain ⟨b1, hb1⟩ : ∃ b, lessB (turnB l p) (smT l).1 = b := ⟨_, rfl⟩
    obtain ⟨b2, hb2⟩ : ∃ b, decide (turnB l p = (smT l).1) = b := ⟨_, rfl⟩
    obtain ⟨b3, hb3⟩ : ∃ b, decide (turnB l p = l) = b := ⟨_, rfl⟩
    rw [hb1] at d1 d0
    rw [hb2] at d0
    simp only [hb2] at d2
    simp only [hb3] at d3 this
    clear hb1 hb2 hb3
    generalize (smT l).1 = R at *
    generalize (smT l).2 = T at *
    have hp0 : (decide ((p : Int) = 0)) = decide (p = 0) := by
      by_cases e : p = 0
      · subst e; rfl
      · have : ¬ ((p : Int) = 0) := by omega
        simp [e, this]
    have hpT : (decide ((p : Int) < (T : Int))) = decide (p < T) := by
      by_cases e : p < T
      · have : (p : Int) < T := by omega
        simp [e, this]
      · have : ¬ (p : Int) < T := by omega
        simp [e, this]
    unfold rwV st at *
    generalize (⟨(markU (turnB l p)).toArray⟩ : ByteArray) = w at *
    generalize (⟨(markU l).toArray⟩ : ByteArray) = s at *
    generalize (⟨(markU R).toArray⟩ : ByteArray) = sR at *
    have d0' : b1 = false ∧ (b2 = false ∨ ¬ p < T) := by
      rcases b1 <;> rcases b2 <;> simp at d0 <;> simp [d0]
    clear d0
    obtain ⟨rfl, d0⟩ := d0'
    have fin : ∀ a', a' = (a && (decide (p = 0) || !b3)) → lpB Try.prog LL ⟨7, 101, 0, none⟩ n7_20 n7_21 ⟨[(1, uv c), (5, .string s), (6, .string sR), (7, iv T), (9, .bool a), (43, pp 0)], [.siter s p], []⟩ =
        lpB Try.prog LL ⟨7, 101, 0, none⟩ n7_20 n7_21 ⟨[(1, uv c), (5, .string s), (6, .string sR), (7, iv T), (9, .bool a'), (43, pp 0)], [.siter s (p + 1)], []⟩ := by
      intro a' ha'
      clear this
      have this := Eq.refl (lpB Try.prog LL ⟨7, 101, 0, none⟩ n7_20 n7_21 ⟨[(1, uv c), (5, .string s), (6, .string sR), (7, iv T), (9, .bool a'), (43, pp 0)], [.siter s (p + 1)], []⟩)
      conv => lhs; rw [lpB_eq]
      by_cases e0 : p = 0
      · have e1 : (p = 0) = True := eq_true e0
        rcases b2
        · rcases a <;> simp [e1] at ha' <;> subst ha' <;> simp (maxSteps := 1000000) (disch := first | omega | decide | assumption | simp [scal]) [loadA_eq ia_46, o_convI cv_5_3, want_some q7_8g2, want_some q7_8g6, want_some q7_8g12, want_some q7_34g3, want_some q7_34g7, want_some q7_40g1, want_some q7_40g4, want_some q7_44g2, want_some q7_44g7, want_some q7_44g13, siter_ptr, siter_ren, o_nextT, n1, c2, d1, d2, d3, e1]
        · have e2 : (p < T) = False := eq_false (by simpa using d0)
          rcases a <;> simp [e1] at ha' <;> subst ha' <;> simp (maxSteps := 1000000) (disch := first | omega | decide | assumption | simp [scal]) [loadA_eq ia_46, o_convI cv_5_3, want_some q7_8g2, want_some q7_8g6, want_some q7_8g12, want_some q7_34g3, want_some q7_34g7, want_some q7_40g1, want_some q7_40g4, want_some q7_44g2, want_some q7_44g7, want_some q7_44g13, siter_ptr, siter_ren, o_nextT, n1, c2, d1, d2, d3, e1, e2]
      · have e1 : (p = 0) = False := eq_false e0
        rcases b2
        · rcases a <;> rcases b3 <;> simp [e1] at ha' <;> subst ha' <;> simp (maxSteps := 1000000) (disch := first | omega | decide | assumption | simp [scal]) [loadA_eq ia_46, o_convI cv_5_3, want_some q7_8g2, want_some q7_8g6, want_some q7_8g12, want_some q7_34g3, want_some q7_34g7, want_some q7_40g1, want_some q7_40g4, want_some q7_44g2, want_some q7_44g7, want_some q7_44g13, siter_ptr, siter_ren, o_nextT, n1, c2, d1, d2, d3, e1]
        · have e2 : (p < T) = False := eq_false (by simpa using d0)
          rcases a <;> rcases b3 <;> simp [e1] at ha' <;> subst ha' <;> simp (maxSteps := 1000000) (disch := first | omega | decide | assumption | simp [scal]) [loadA_eq ia_46, o_convI cv_5_3, want_some q7_8g2, want_some q7_8g6, want_some q7_8g12, want_some q7_34g3, want_some q7_34g7, want_some q7_40g1, want_some q7_40g4, want_some q7_44g2, want_some q7_44g7, want_some q7_44g13, siter_ptr, siter_ren, o_nextT, n1, c2, d1, d2, d3, e1, e2]
    rw [fin _ rfl, this]
end
end Go.Proofs.Ytjimphlkhjmaiaa.sw
namespace Go.Proofs.Ytjimphlkhjmaiaa.sw
open Go.GE
set_option linter.unusedVariables false
set_option linter.unusedSimpArgs false
set_option linter.unusedSectionVars false
set_option maxRecDepth 100000
set_option maxHeartbeats 4000000
attribute [local simp] runOps_nil runOps_cons runOpsF_nil runOpsF_cons fstS_some fstF_some opStep_eq want_none oStep_true oStep_false fin_pure fin_read fin_alloc fin_write storeB wrN cellV addWr o_move o_assign o_pick o_alloc o_box o_load o_store o_nilCheck o_bin o_un o_extract o_callV o_callB o_callI callV_f callV_y callV_fc o_makeFunc partsA Instr.fill builtin_len builtin_max2 bin_add bin_sub bin_mul bin_quo bin_rem bin_lss bin_leq bin_gtr bin_geq bin_eql bin_neq un_neg un_not bin_shr bin_shl wrap_u64_id opd opds optAll putO nbeq nblt constOk isC ops sub cl cr co bodyOf thenS_normal thenS_ret thenS_exit thenS_goto afterN_normal afterN_ret afterN_exit afterN_goto condS_true condS_false blockS_normal blockS_ret blockS_exit blockS_goto headS normS normK_eq fixS_nil fixS_cons fix1 fixV emptyB keepO_nil keepO_cons roundC_normal roundC_exit roundC_ret roundC_goto sweep_eq sweepD rnm pickR pickW rootsB ptrT renT ptrFn renFn ptrB_flat ptrB_non renB_flat renB_non plainS_some drawS_some fpsOk disj unord range' dropTo enumT undef wrap_i64_id Value.cells mkCells ptrTo scal cellsAt rdN endS_ret resultsA Option.bind_some tupV finish reachN dep ptrL_eq ptrL renL_eq renL ptrV_bool ptrV_int ptrV_string ptrV_nilFunc ptrV_nilIface ptrV_nilPtr ptrV_ptr ptrV_nilSl ptrV_sl ptrV_iface ptrV_agg ptrV_tuple ptrV_func renV_bool renV_int renV_string renV_nilFunc renV_nilIface renV_nilPtr renV_ptr renV_nilSl renV_sl renV_iface renV_agg renV_tuple renV_func gotoS_goto gotoS_normal gotoS_exit gotoS_ret skip_seq sliceE bnd bndHi intOf optOpd keepT_nil keepT_cons keepC_t keepC_f lk_nil lk_cons lkC_t lkC_f has_nil has_cons hasC_t hasC_f rep_nil rep_cons repC_t repC_f put_eq putC_t putC_f mem_nil mem_cons memC_t memC_f idx_nil idx_cons idxC_t idxC_f reach_nil reachP_cons reachQ_t reachQ_f ptrB_dead renB_dead ins_eq
attribute [local simp] n7_1s n7_3s n7_5s n7_8s n7_11s n7_12s n7_10s n7_13s n7_9s n7_7s n7_15s n7_18s n7_22s n7_25s n7_26s n7_24s n7_29s n7_31s n7_34s n7_37s n7_38s n7_36s n7_39s n7_35s n7_33s n7_40s n7_32s n7_30s n7_28s n7_27s n7_23s n7_21s n7_20s n7_20g n7_19s n7_17s n7_42s n7_44s n7_45s n7_43s n7_41s n7_16s n7_14s n7_6s n7_4s n7_2s n7_0s Try.f7
theorem c7 (B C t : Nat) (hB : B < 2 ^ 64) (hC : C < 256) (ht : t < 256) : LL.run 7 [lpV B C, uv t] [] = some ⟨.bool true, [], []⟩ := by
  have c1 := fun h => k33 B C hB hC h
  obtain ⟨l, hl⟩ : ∃ l, bitL B (1 + C % 64) = l := ⟨_, rfl⟩
  have hn : l.length = 1 + C % 64 := by rw [← hl, bitL_len]
  have h1 : 1 ≤ l.length := by omega
  have h64 : l.length ≤ 64 := by omega
  rw [hl] at c1
  clear hl hn
  have c2 := fun h => k15 l h1 h64 h
  obtain ⟨m1, m2, _⟩ := smT_ok l h1
  have c3 := fun h => k35 l (smT l).2 (by omega) (by omega) h
  rw [← m2] at c3
  have d3 := fun c => @bin_neqs 9 c (markU (smT l).1) (markU (smT l).1)
  have d4 := fun c => @bin_eqls 9 c (markU (smT l).1) (markU (smT l).1)
  have lp := l7 l t h1 h64 l.length 0 true (by omega)
  have a2 := fun h => @lenA_st h (markU l)
  rw [mark_len] at a2
  have w0 : IntKind.i64.wrap (t : Int) = t := wrap_nn (by omega)
  have tm : Int.tmod (t : Int) (l.length : Int) = ((t % l.length : Nat) : Int) := rfl
  have hj : t % l.length < l.length := Nat.mod_lt _ h1
  have hlen : (turnB l (t % l.length)).length = l.length := turn_len (Nat.le_of_lt hj)
  have c4 := fun h => k35 l (t % l.length) (by omega) (by omega) h
  have c5 := fun h => k15 (turnB l (t % l.length)) (by omega) (by omega) h
  rw [smT_turn l h1 _ hj] at c5
  have w1 : IntKind.i64.wrap ((t % l.length : Nat) : Int) = ((t % l.length : Nat) : Int) := wrap_nn (by omega)
  have c6 := fun h => k34 (smT l).1 (by rw [m2, turn_len (by omega)]; exact h1) (by rw [m2, turn_len (by omega)]; exact h64) h
  rw [bar_alone l h1] at c6
  have z0 : ¬ ((l.length : Int) = 0) := by omega
  have z1 : ¬ l = [] := fun e => by rw [e] at h1; simp at h1
  generalize aloneR l l.length 0 true = A at *
  generalize turnB l (t % l.length) = tl at *
  generalize (smT tl).2 = T2 at *
  generalize (smT l).1 = R at *
  generalize (smT l).2 = T at *
  generalize t % l.length = tj at *
  have e1 : ¬ ((T : Int) < 0) := by omega
  have e2 : ¬ ((l.length : Int) ≤ T) := by omega
  have e3 : ¬ (l.length ≤ T) := by omega
  simp only [decide_true, Bool.not_true] at d3 d4
  clear m1 m2
  unfold rwV st at *
  generalize (⟨(markU l).toArray⟩ : ByteArray) = s at *
  have be : ∀ c b, binA Try.prog .eql 4 c (.bool b) (.bool b) = some (.bool true) := fun c b => by cases b <;> rfl
  refine L_run rfl ?_
  rw [run7 _ _ _ (by simp)]
  rcases A with _ | _ <;>
  simp (maxSteps := 1000000) (disch := first | omega | decide | assumption | simp [scal]) [loadA_eq ia_46, o_convI cv_5_3, want_some q7_8g2, want_some q7_8g6, want_some q7_8g12, want_some q7_34g3, want_some q7_34g7, want_some q7_40g1, want_some q7_40g4, want_some q7_44g2, want_some q7_44g7, want_some q7_44g13, siter_ptr, siter_ren, o_rangeT, c1, c2, c3, d3, d4, lp, a2, w0, tm, c4, c5, w1, c6, z0, z1, e1, e2, e3, k14, be]
section
open Go.ChangeShapes Go.WideShapes Go.RowKit
variable {H : Type} {enc : TypeId × Value → H} {W : World} {base b0 : Nat} {v : Value} {d : DataW H} {p : List MemPlace}
theorem u64_wf {z : Int} (h : (Lit.int .u64 z).wf = true) : 0 ≤ z ∧ z ≤ 18446744073709551615 := by simpa [Lit.wf, IntKind.min, IntKind.max, IntKind.signed, IntKind.bits] using h
theorem open_lamp (hv : Value.okWide Try.prog W .any b0 46 v) (hd : DataW.Trod enc Try.prog W base (fun _ => true) true 46 v d p) : ∃ B C : Nat, v = lpV B C ∧ B < 2 ^ 64 ∧ C < 256 := by
  simp only [Value.okWide, Try.underlying46] at hv
  obtain ⟨cs, rfl, _, _⟩ := hv
  obtain ⟨fuel, hf⟩ := hd
  obtain ⟨zs, e, hw⟩ := open_flat 5 46 [.u64, .u8] fuel _ _ (by kernel_rfl) hf
  match zs, hw.1, hw, e with
  | [x, y], _, hw, e =>
    obtain ⟨B, rfl, hB⟩ := nat_of (b := 18446744073709551615) (u64_wf (hw.2 0 .u64 x rfl rfl))
    obtain ⟨C, rfl, hC⟩ := nat_of (b := 255) (u8_wf (hw.2 1 .u8 y rfl rfl))
    have : cs = #[.int .u64 (B : Int), uv C] := by
      cases cs
      exact congrArg Array.mk e
    subst this
    exact ⟨B, C, rfl, by omega, by omega⟩
theorem VR_lamp {m : Mp} {B C : Nat} : VR m (lpV B C) (lpV B C) := .agg (.cons (.int _ _) (.cons (.int _ _) .nil))
end
end Go.Proofs.Ytjimphlkhjmaiaa.sw
