/-
  Contracts of functions of the program at the limit evaluator. No condition.
-/
import Derived.Test.YtjimphlkhjmaiaaSHN
import Derived.Laws.RangeString
import Derived.Lib.Strings
import Derived.Test.YtjimphlkhjmaiaaE40
namespace Go.Proofs.Ytjimphlkhjmaiaa.sw
open Go.GE
set_option linter.unusedVariables false
set_option linter.unusedSimpArgs false
set_option linter.unusedSectionVars false
set_option maxRecDepth 100000
set_option maxHeartbeats 4000000
theorem k14 (h : List Blk) : callH LL 14 [] h = some ⟨.bool true, h, [], []⟩ := callH_plain (L_tab rfl) rfl rfl
abbrev uv (n : Nat) : Value := .int .u8 (n : Int)
abbrev sl (b off n c : Nat) : Value := .slice (some ⟨b, off, none⟩) n c
abbrev pp (b : Nat) : Value := .pointer (some ⟨b, 0, none⟩)
theorem wrap_nn {a : Nat} (h : a < 2 ^ 63) : IntKind.i64.wrap (a : Int) = a := wrap_i64_id (by omega) (by omega)
end Go.Proofs.Ytjimphlkhjmaiaa.sw
namespace Go.Proofs.Ytjimphlkhjmaiaa.sw
open Go.GE
set_option linter.unusedVariables false
set_option linter.unusedSimpArgs false
set_option linter.unusedSectionVars false
set_option maxRecDepth 100000
set_option maxHeartbeats 4000000
abbrev st (l : List UInt8) : Value := .string ⟨l.toArray⟩
theorem bytes_mk (l : List UInt8) : (⟨l.toArray⟩ : ByteArray).toList = l := by rw [Lib.toList_data]
theorem bin_eqls {t : TypeId} {c : Bool} {a b : List UInt8} : binA Try.prog .eql t c (st a) (st b) = some (.bool (decide (a = b))) := by
  simp only [binA, Op.stringOp, bytes_mk, pureOf, pure]
  by_cases h : a = b <;> simp [h]
theorem bin_neqs {t : TypeId} {c : Bool} {a b : List UInt8} : binA Try.prog .neq t c (st a) (st b) = some (.bool !(decide (a = b))) := by
  simp only [binA, Op.stringOp, bytes_mk, pureOf, pure]
  by_cases h : a = b <;> simp [h]
theorem bin_geqs {t : TypeId} {c : Bool} {a b : List UInt8} : binA Try.prog .geq t c (st a) (st b) = some (.bool !(Op.bytesLess a b)) := by
  simp only [binA, Op.stringOp, bytes_mk, pureOf, pure]
theorem st_size (l : List UInt8) : (⟨l.toArray⟩ : ByteArray).size = l.length := rfl
theorem bin_adds {t : TypeId} {c : Bool} {a b : List UInt8} (h : a.length + b.length ≤ 9223372036854775807) : binA Try.prog .add t c (st a) (st b) = some (st (a ++ b)) := by
  have : ¬ (((a.length + b.length : Nat) : Int) > IntKind.i64.max) := by
    rw [show IntKind.i64.max = (2 ^ 63 : Int) - 1 from rfl]; omega
  simp only [binA, Op.stringOp, st_size, if_neg this, pureOf, pure]
  congr 2
section
open Go.ChangeShapes Go.WideShapes Go.RowKit
variable {H : Type} {enc : TypeId × Value → H} {W : World} {base b0 : Nat} {v : Value} {d : DataW H} {p : List MemPlace}
end
end Go.Proofs.Ytjimphlkhjmaiaa.sw
namespace Go.Proofs.Ytjimphlkhjmaiaa.sw
open Go.GE
set_option linter.unusedVariables false
set_option linter.unusedSimpArgs false
set_option linter.unusedSectionVars false
set_option maxRecDepth 100000
set_option maxHeartbeats 4000000
theorem u9 : Try.prog.underlying 9 = some .string := by kernel_rfl
theorem u5 : Try.prog.underlying 5 = some (.int .u8) := by kernel_rfl
theorem u51 : Try.prog.underlying 51 = some (.slice 5) := by kernel_rfl
theorem ext_st {l : List UInt8} {a b : Nat} : (⟨l.toArray⟩ : ByteArray).extract a b = ⟨((l.drop a).take (b - a)).toArray⟩ := by rw [Lib.extract_eq]
def sliceB (h : List Blk) (s : ByteArray) (lo hi : Option Value) : Option OR :=
  match bnd hi s.size s.size with
  | some hh => match bnd lo hh 0 with
    | some ll => pureR h (.string (s.extract ll hh))
    | none => none
  | none => none
section
variable {σ : Tm} {h : List Blk} {d : Option Nat} {ty : TypeId} {pos : String} {af : Array Edge} {g : Option (Nat × Bool)} {x y z : Operand} {lo hi : Option Operand}
theorem o_sliceT : aop Try.prog LL σ h ⟨d, .slice 9 x lo hi none, ty, pos, af, g⟩ = (match opd σ x, optOpd σ lo, optOpd σ hi with
    | some (.string s), some lo, some hi => sliceB h s lo hi
    | _, _, _ => none) := by
  simp only [aop, u9, show optOpd σ none = some none from rfl]
  rcases opd σ x with _ | v
  · rfl
  cases v with
  | string s =>
    rcases optOpd σ lo with _ | lo'
    · rfl
    rcases optOpd σ hi with _ | hi'
    · rfl
    rfl
  | slice a l c =>
    rcases a with _ | ⟨b, o, _ | _⟩ <;> rcases optOpd σ lo with _ | lo' <;> rcases optOpd σ hi with _ | hi' <;> first | rfl | (cases l <;> cases c <;> rfl)
  | _ => rfl
/-- bytes turned into a string -/
def conS (h : List Blk) (b o n : Nat) : Option OR := match n with
  | 0 => pureR h (.string .empty)
  | _ => match cellsC h b with
    | some cs => match rdN cs o n with
      | some l => (bytesOf l).map fun bs => ⟨.string ⟨bs.toArray⟩, h, [b], []⟩
      | none => none
    | none => none
theorem o_conT : aop Try.prog LL σ h ⟨d, .convert 51 9 x, ty, pos, af, g⟩ = (match opd σ x with
    | some (.slice none 0 0) => pureR h (.string .empty)
    | some (.slice (some ⟨b, o, none⟩) n _) => conS h b o n
    | _ => none) := by
  simp only [aop, u9, u51, u5]
  rcases opd σ x with _ | v
  · rfl
  cases v with
  | slice a l c =>
    rcases a with _ | ⟨b, o, _ | _⟩
    · cases l <;> cases c <;> rfl
    · cases l <;> rfl
    · rfl
  | _ => rfl
theorem o_indexT : aop Try.prog LL σ h ⟨d, .index 9 x y, ty, pos, af, g⟩ = (match opd σ x, opd σ y with
    | some (.string s), some (.int _ k) => if 0 ≤ k then match s[k.toNat]? with
        | some c => pureR h (.int .u8 c.toNat)
        | none => none
      else none
    | _, _ => none) := by
  simp only [aop, u9]
  rcases opd σ x with _ | v
  · rfl
  cases v with
  | string s =>
    rcases opd σ y with _ | w
    · rfl
    cases w <;> rfl
  | _ => rfl
theorem o_rangeT : aop Try.prog LL σ h ⟨d, .range 9 x, ty, pos, af, g⟩ = (match opd σ x with
    | some (.string s) => allocR h (.siter s 0) ptrTo
    | _ => none) := by
  simp only [aop, u9]
  rcases opd σ x with _ | v
  · rfl
  cases v <;> rfl
def nextB (h : List Blk) (b : Nat) : Option OR := match h[b]? with
  | some (.siter s p) => if p < s.size then
      some ⟨.tuple #[.bool true, goInt p, .int .i32 (Utf8.decode s p).1], h.set b (.siter s (p + (Utf8.decode s p).2)), [b], [b]⟩
    else some ⟨.tuple #[.bool false], h, [b], []⟩
  | _ => none
theorem o_nextT : aop Try.prog LL σ h ⟨d, .next x true, ty, pos, af, g⟩ = (match opd σ x with
    | some (.pointer (some ⟨b, 0, none⟩)) => nextB h b
    | _ => none) := rfl
theorem lenA_st {l : List UInt8} : lenA Try.prog h 9 (st l) = some (iv l.length, []) := by
  simp only [lenA, u9]; rfl
end
theorem min_st {h : List Blk} {ts : List TypeId} {a b : List UInt8} : builtinA Try.prog h .min ts [st a, st b] = pureR h (st (if (Op.bytesLess a b || decide (a = b)) = true then a else b)) := by
  have : pureOf (Op.stringOp .leq ⟨a.toArray⟩ ⟨b.toArray⟩) = some (.bool (Op.bytesLess a b || decide (a = b))) := by
    simp only [Op.stringOp, bytes_mk, pureOf, pure]
    by_cases h : a = b <;> simp [h]
  cases ts <;> simp only [builtinA, minA, this] <;> (by_cases h : (Op.bytesLess a b || decide (a = b)) = true <;> simp [h])
theorem bin_and1i {P : Program} {t : TypeId} {c : Bool} {w : Nat} (h : w < 2 ^ 63) : binA P .and t c (.int .i64 (w : Int)) (.int .i64 1) = some (.int .i64 ((w % 2 : Nat) : Int)) := by
  have e : (BitVec.ofInt 64 (w : Int) &&& BitVec.ofInt 64 1).toNat = w % 2 := by
    rw [BitVec.ofInt_natCast]
    rw [show BitVec.ofInt 64 1 = BitVec.ofNat 64 1 from rfl, BitVec.toNat_and, BitVec.toNat_ofNat, BitVec.toNat_ofNat, Nat.mod_eq_of_lt (by omega), Nat.mod_eq_of_lt (by decide : 1 < 2 ^ 64), Nat.and_one_is_mod]
  have e' : IntKind.i64.wrap ((BitVec.ofInt 64 (w : Int) &&& BitVec.ofInt 64 1).toNat : Int) = ((w % 2 : Nat) : Int) := by rw [e]; exact wrap_nn (by omega)
  show some (Value.int .i64 (IntKind.i64.wrap ((BitVec.ofInt 64 (w : Int) &&& BitVec.ofInt 64 1).toNat : Int))) = _
  rw [e']
theorem fdiv_powi {w i : Nat} (hi : i < 64) : ((w : Int).fdiv (2 ^ min i IntKind.i64.bits)) = ((w / 2 ^ i : Nat) : Int) := by
  rw [show min i IntKind.i64.bits = i from Nat.min_eq_left (Nat.le_of_lt hi), Int.fdiv_eq_ediv_of_nonneg _ (by exact_mod_cast Nat.zero_le _)]
  simp
theorem shl_powi {J : Nat} (hJ : J < 63) : IntKind.i64.wrap (2 ^ min J IntKind.i64.bits) = ((2 ^ J : Nat) : Int) := by
  rw [show min J IntKind.i64.bits = J from Nat.min_eq_left (by have : IntKind.i64.bits = 64 := rfl; omega), show ((2 : Int) ^ J) = ((2 ^ J : Nat) : Int) by simp]
  exact wrap_nn (Nat.pow_lt_pow_right (by decide) hJ)
theorem bit_dm {M i : Nat} : M.testBit i = decide (M / 2 ^ i % 2 = 1) := Nat.testBit_eq_decide_div_mod_eq
end Go.Proofs.Ytjimphlkhjmaiaa.sw
namespace Go.Proofs.Ytjimphlkhjmaiaa.sw
open Go.GE
set_option linter.unusedVariables false
set_option linter.unusedSimpArgs false
set_option linter.unusedSectionVars false
set_option maxRecDepth 100000
set_option maxHeartbeats 4000000
attribute [local simp] runOps_nil runOps_cons runOpsF_nil runOpsF_cons fstS_some fstF_some opStep_eq want_none oStep_true oStep_false fin_pure fin_read fin_alloc fin_write storeB wrN cellV addWr o_move o_assign o_pick o_alloc o_box o_load o_store o_nilCheck o_bin o_un o_extract o_callV o_callB o_callI callV_f callV_y callV_fc o_makeFunc partsA Instr.fill builtin_len builtin_max2 bin_add bin_sub bin_mul bin_quo bin_rem bin_lss bin_leq bin_gtr bin_geq bin_eql bin_neq un_neg un_not bin_shr bin_shl wrap_u64_id opd opds optAll putO nbeq nblt constOk isC ops sub cl cr co bodyOf thenS_normal thenS_ret thenS_exit thenS_goto afterN_normal afterN_ret afterN_exit afterN_goto condS_true condS_false blockS_normal blockS_ret blockS_exit blockS_goto headS normS normK_eq fixS_nil fixS_cons fix1 fixV emptyB keepO_nil keepO_cons roundC_normal roundC_exit roundC_ret roundC_goto sweep_eq sweepD rnm pickR pickW rootsB ptrT renT ptrFn renFn ptrB_flat ptrB_non renB_flat renB_non plainS_some drawS_some fpsOk disj unord range' dropTo enumT undef wrap_i64_id Value.cells mkCells ptrTo scal cellsAt rdN endS_ret resultsA Option.bind_some tupV finish reachN dep ptrL_eq ptrL renL_eq renL ptrV_bool ptrV_int ptrV_string ptrV_nilFunc ptrV_nilIface ptrV_nilPtr ptrV_ptr ptrV_nilSl ptrV_sl ptrV_iface ptrV_agg ptrV_tuple ptrV_func renV_bool renV_int renV_string renV_nilFunc renV_nilIface renV_nilPtr renV_ptr renV_nilSl renV_sl renV_iface renV_agg renV_tuple renV_func gotoS_goto gotoS_normal gotoS_exit gotoS_ret skip_seq sliceE bnd bndHi intOf optOpd keepT_nil keepT_cons keepC_t keepC_f lk_nil lk_cons lkC_t lkC_f has_nil has_cons hasC_t hasC_f rep_nil rep_cons repC_t repC_f put_eq putC_t putC_f mem_nil mem_cons memC_t memC_f idx_nil idx_cons idxC_t idxC_f reach_nil reachP_cons reachQ_t reachQ_f ptrB_dead renB_dead ins_eq
attribute [local simp] n35_1s n35_3s n35_4s n35_2s n35_0s Try.f35
def bitU (b : Bool) : UInt8 := cond b 49 48
def markU (l : List Bool) : List UInt8 := l.map bitU
theorem bitU_inj {a b : Bool} (h : bitU a = bitU b) : a = b := by cases a <;> cases b <;> first | rfl | (exact absurd h (by decide))
theorem markU_inj {a b : List Bool} (h : markU a = markU b) : a = b := by
  induction a generalizing b with
  | nil => cases b with
    | nil => rfl
    | cons => simp [markU] at h
  | cons x a ih => cases b with
    | nil => simp [markU] at h
    | cons y b =>
      simp only [markU, List.map_cons, List.cons.injEq] at h
      rw [bitU_inj h.1, ih h.2]
def lessB : List Bool → List Bool → Bool
  | _, [] => false
  | [], _ :: _ => true
  | a :: x, b :: y => cond a (cond b (lessB x y) false) (cond b true (lessB x y))
theorem less_mark : ∀ {a b : List Bool}, Op.bytesLess (markU a) (markU b) = lessB a b := by
  intro a
  induction a with
  | nil => intro b; cases b <;> rfl
  | cons x a ih =>
    intro b
    cases b with
    | nil => rfl
    | cons y b =>
      simp only [markU, List.map_cons, Op.bytesLess, lessB]
      have := ih (b := b)
      simp only [markU] at this
      cases x <;> cases y <;> simp [bitU, this]
theorem mark_len {l : List Bool} : (markU l).length = l.length := by simp [markU]
theorem mark_app {a b : List Bool} : markU (a ++ b) = markU a ++ markU b := by simp [markU]
theorem mark_drop {l : List Bool} {t : Nat} : (markU l).drop t = markU (l.drop t) := by simp [markU, List.map_drop]
theorem mark_take {l : List Bool} {t : Nat} : (markU l).take t = markU (l.take t) := by simp [markU, List.map_take]
abbrev rwV (l : List Bool) : Value := st (markU l)
/-- the turn of a rim -/
def turnB (l : List Bool) (t : Nat) : List Bool := l.drop t ++ l.take t
theorem k35 (l : List Bool) (t : Nat) (ht : t ≤ l.length) (hl : l.length < 2 ^ 40) (h : List Blk) : callH LL 35 [rwV l, iv t] h = some ⟨rwV (turnB l t), h, [], []⟩ := by
  refine callH_none rfl (fun _ => rfl) (L_run rfl ?_) fun _ => rfl
  have h1 : (t : Int) ≤ (l.length : Int) := by omega
  have h2 : (markU (l.drop t)).length + (markU (l.take t)).length ≤ 9223372036854775807 := by rw [mark_len, mark_len]; simp; omega
  have hd : List.take (l.length - t) (l.drop t) = l.drop t := List.take_of_length_le (by simp)
  have e : rwV (turnB l t) = st (markU (l.drop t) ++ markU (l.take t)) := by unfold rwV turnB; rw [mark_app]
  rw [e, run35 _ _ _ (by simp)]
  simp (maxSteps := 1000000) (disch := first | omega | decide | assumption | simp [scal]) [o_sliceT, sliceB, st_size, mark_len, ext_st, mark_drop, mark_take, hd, @bin_adds _ _ _ _ h2, h1, ht]
end Go.Proofs.Ytjimphlkhjmaiaa.sw
namespace Go.Proofs.Ytjimphlkhjmaiaa.sw
open Go.GE
set_option linter.unusedVariables false
set_option linter.unusedSimpArgs false
set_option linter.unusedSectionVars false
set_option maxRecDepth 100000
set_option maxHeartbeats 4000000
def markV (l : List Bool) : List Value := l.map fun b => uv (cond b 49 48)
/-- the first marks, and zeros behind them -/
def fillV (l : List Bool) (k : Nat) : List Value := markV l ++ List.replicate k (uv 0)
theorem markV_len {l : List Bool} : (markV l).length = l.length := by simp [markV]
theorem fillV_len {l : List Bool} {k : Nat} : (fillV l k).length = l.length + k := by simp [fillV, markV_len]
theorem fillV_set {l : List Bool} {k : Nat} {b : Bool} {v : Value} (hv : v = uv (cond b 49 48)) : (fillV l (k + 1)).set l.length v = fillV (l ++ [b]) k := by
  subst hv
  unfold fillV
  rw [List.set_append_right _ _ (by rw [markV_len]; exact Nat.le_refl _), markV_len, Nat.sub_self, List.replicate_succ, List.set_cons_zero]
  simp [markV]
theorem markV_bytes : ∀ {l : List Bool}, bytesOf (markV l) = some (markU l) := by
  intro l
  induction l with
  | nil => rfl
  | cons b l ih =>
    show (bytesOf (markV l)).map (UInt8.ofNat ((cond b 49 48 : Nat) : Int).toNat :: ·) = some (markU (b :: l))
    rw [ih]
    cases b <;> rfl
theorem conS_mark {h : List Blk} {b n e : Nat} {l : List Bool} {fl ow : Bool} (hb : h[b]? = some (.cells (markV l) e fl ow)) (hn : l.length = n) (h1 : 1 ≤ n) : conS h b 0 n = some ⟨rwV l, h, [b], []⟩ := by
  obtain ⟨m, rfl⟩ : ∃ m, n = m + 1 := ⟨n - 1, by omega⟩
  have hr := rdN_all (markV l) (m + 1) 0 (by rw [markV_len]; omega)
  rw [List.drop_zero] at hr
  simp only [conS, cellsC, hb, hr, markV_bytes, Option.map_some]
/-- the marks of a number, the lowest ones first -/
def bitL (x n : Nat) : List Bool := (List.range n).map fun k => decide (x / 2 ^ k % 2 = 1)
theorem bitL_len {x n : Nat} : (bitL x n).length = n := by simp [bitL]
theorem bitL_succ {x n : Nat} : bitL x (n + 1) = bitL x n ++ [decide (x / 2 ^ n % 2 = 1)] := by simp [bitL, List.range_succ]
theorem mk51 {σ : Tm} {h : List Blk} {d : Option Nat} {ty : TypeId} {pos : String} {af : Array Edge} {g : Option (Nat × Bool)} {x y : Operand} : aop Try.prog LL σ h ⟨d, .makeSlice 51 x y, ty, pos, af, g⟩ = (match opd σ x, opd σ y with
    | some (.int _ n), some (.int _ k) => if 0 ≤ n ∧ n ≤ k ∧ k * 1 ≤ 70368744177664 ∧ k ≤ 70368744177664 then allocR h (.cells (List.replicate k.toNat (uv 0)) 1 true true) fun b => .slice (some ⟨b, 0, none⟩) n.toNat k.toNat else none
    | _, _ => none) := by
  have e1 : Try.prog.underlying 51 = some (.slice 5) := by kernel_rfl
  have e2 : (Try.prog.info? 5).map (fun i => (i.bytes, i.size)) = some (1, 1) := by kernel_rfl
  have e3 : zeroA Try.prog 5 = some (uv 0) := by kernel_rfl
  obtain ⟨i, hi, hp⟩ := Option.map_eq_some_iff.1 e2
  obtain ⟨h8, h1⟩ := Prod.mk.inj hp
  have hfl : ∀ k : Nat, (List.replicate k [uv 0]).flatten = List.replicate k (uv 0) := fun k => List.flatten_replicate_singleton
  simp only [aop, e1, e2, e3, hi, h8, h1]
  cases opd σ x with
  | none => rfl
  | some v =>
    cases v <;> try rfl
    cases opd σ y with
    | none => rfl
    | some w =>
      cases w <;> try rfl
      rename_i k1 n k2 m
      simp only [e3, hi, h8, h1]
      by_cases hc : 0 ≤ n ∧ n ≤ m ∧ m * 1 ≤ 70368744177664 ∧ m ≤ 70368744177664
      · rw [if_pos hc, if_pos ⟨hc.1, hc.2.1, by have := hc.2.2.1; omega, by have := hc.2.2.2; omega, by decide, rfl⟩]
        show allocR h (.cells ((List.replicate m.toNat [uv 0]).flatten) 1 true true) _ = _
        rw [hfl]
      · rw [if_neg hc, if_neg (fun h => hc ⟨h.1, h.2.1, by have := h.2.2.1; omega, by have := h.2.2.2.1; omega⟩)]
end Go.Proofs.Ytjimphlkhjmaiaa.sw
namespace Go.Proofs.Ytjimphlkhjmaiaa.sw
open Go.GE
set_option linter.unusedVariables false
set_option linter.unusedSimpArgs false
set_option linter.unusedSectionVars false
set_option maxRecDepth 100000
set_option maxHeartbeats 4000000
def minR (a b : List Bool) : List Bool := if (lessB a b || decide (a = b)) = true then a else b
theorem min_rw {h : List Blk} {ts : List TypeId} {a b : List Bool} : builtinA Try.prog h .min ts [rwV a, rwV b] = pureR h (rwV (minR a b)) := by
  have e : (markU a = markU b) = (a = b) := propext ⟨markU_inj, fun h => by rw [h]⟩
  rw [show rwV a = st (markU a) from rfl, show rwV b = st (markU b) from rfl, min_st, less_mark]
  simp only [e, minR]
  by_cases h : (lessB a b || decide (a = b)) = true
  · rw [if_pos h, if_pos h]
  · rw [if_neg h, if_neg h]
end Go.Proofs.Ytjimphlkhjmaiaa.sw
namespace Go.Proofs.Ytjimphlkhjmaiaa.sw
open Go.GE
set_option linter.unusedVariables false
set_option linter.unusedSimpArgs false
set_option linter.unusedSectionVars false
set_option maxRecDepth 100000
set_option maxHeartbeats 4000000
attribute [local simp] runOps_nil runOps_cons runOpsF_nil runOpsF_cons fstS_some fstF_some opStep_eq want_none oStep_true oStep_false fin_pure fin_read fin_alloc fin_write storeB wrN cellV addWr o_move o_assign o_pick o_alloc o_box o_load o_store o_nilCheck o_bin o_un o_extract o_callV o_callB o_callI callV_f callV_y callV_fc o_makeFunc partsA Instr.fill builtin_len builtin_max2 bin_add bin_sub bin_mul bin_quo bin_rem bin_lss bin_leq bin_gtr bin_geq bin_eql bin_neq un_neg un_not bin_shr bin_shl wrap_u64_id opd opds optAll putO nbeq nblt constOk isC ops sub cl cr co bodyOf thenS_normal thenS_ret thenS_exit thenS_goto afterN_normal afterN_ret afterN_exit afterN_goto condS_true condS_false blockS_normal blockS_ret blockS_exit blockS_goto headS normS normK_eq fixS_nil fixS_cons fix1 fixV emptyB keepO_nil keepO_cons roundC_normal roundC_exit roundC_ret roundC_goto sweep_eq sweepD rnm pickR pickW rootsB ptrT renT ptrFn renFn ptrB_flat ptrB_non renB_flat renB_non plainS_some drawS_some fpsOk disj unord range' dropTo enumT undef wrap_i64_id Value.cells mkCells ptrTo scal cellsAt rdN endS_ret resultsA Option.bind_some tupV finish reachN dep ptrL_eq ptrL renL_eq renL ptrV_bool ptrV_int ptrV_string ptrV_nilFunc ptrV_nilIface ptrV_nilPtr ptrV_ptr ptrV_nilSl ptrV_sl ptrV_iface ptrV_agg ptrV_tuple ptrV_func renV_bool renV_int renV_string renV_nilFunc renV_nilIface renV_nilPtr renV_ptr renV_nilSl renV_sl renV_iface renV_agg renV_tuple renV_func gotoS_goto gotoS_normal gotoS_exit gotoS_ret skip_seq sliceE bnd bndHi intOf optOpd keepT_nil keepT_cons keepC_t keepC_f lk_nil lk_cons lkC_t lkC_f has_nil has_cons hasC_t hasC_f rep_nil rep_cons repC_t repC_f put_eq putC_t putC_f mem_nil mem_cons memC_t memC_f idx_nil idx_cons idxC_t idxC_f reach_nil reachP_cons reachQ_t reachQ_f ptrB_dead renB_dead ins_eq
attribute [local simp] n42_1s n42_4s n42_8s n42_11s n42_12s n42_10s n42_15s n42_17s n42_20s n42_21s n42_19s n42_22s n42_18s n42_16s n42_14s n42_13s n42_9s n42_7s n42_6s n42_6g n42_5s n42_3s n42_24s n42_25s n42_23s n42_2s n42_0s Try.f42
theorem dec_row {l : List Bool} {p : Nat} (hp : p < l.length) : Utf8.decode ⟨(markU l).toArray⟩ p = ((cond (l.getD p false) 49 48 : Nat), 1) := by
  have hs : p < (⟨(markU l).toArray⟩ : ByteArray).size := by rw [st_size, mark_len]; exact hp
  have hv : (⟨(markU l).toArray⟩ : ByteArray)[p]'hs = bitU (l.getD p false) := by
    show (markU l).toArray[p]'_ = _
    simp [markU, hp]
  rw [decode_ascii _ _ hs (by rw [hv]; cases l.getD p false <;> decide), hv]
  cases l.getD p false <;> rfl
theorem next_row {h : List Blk} {b p : Nat} {l : List Bool} (hb : h[b]? = some (.siter ⟨(markU l).toArray⟩ p)) (hp : p < l.length) :
    nextB h b = some ⟨.tuple #[.bool true, iv p, .int .i32 ((cond (l.getD p false) 49 48 : Nat) : Int)], h.set b (.siter ⟨(markU l).toArray⟩ (p + 1)), [b], [b]⟩ := by
  have hs : p < (⟨(markU l).toArray⟩ : ByteArray).size := by rw [st_size, mark_len]; exact hp
  simp only [nextB, hb, if_pos hs, dec_row hp]
  rfl
theorem next_end {h : List Blk} {b p : Nat} {l : List Bool} (hb : h[b]? = some (.siter ⟨(markU l).toArray⟩ p)) (hp : l.length ≤ p) : nextB h b = some ⟨.tuple #[.bool false], h, [b], []⟩ := by
  have hs : ¬ p < (⟨(markU l).toArray⟩ : ByteArray).size := by rw [st_size, mark_len]; omega
  simp only [nextB, hb, if_neg hs]
theorem siter_ptr {s : ByteArray} {p : Nat} : ptrB (.siter s p) = [] := rfl
theorem siter_ren {f : Nat → Option Nat} {s : ByteArray} {p : Nat} : renB f (.siter s p) = some (.siter s p) := rfl
theorem k57 (x : Bool) (h : List Blk) : callH LL 57 [st [48, 49], .int .i32 ((cond x 49 48 : Nat) : Int)] h = some ⟨.bool true, h, [], []⟩ := by
  cases x
  · exact callH_none rfl (fun _ => rfl) (L_tab (by kernel_rfl)) fun _ => rfl
  · exact callH_none rfl (fun _ => rfl) (L_tab (by kernel_rfl)) fun _ => rfl
theorem l42 (l : List Bool) : ∀ (q p : Nat), p + q = l.length →
    lpB Try.prog LL ⟨42, 16, 0, none⟩ n42_6 n42_7 ⟨[(1, st [48, 49]), (8, pp 0)], [.siter ⟨(markU l).toArray⟩ p], []⟩ = some (.exit 0, ⟨[], [], []⟩) := by
  intro q
  induction q with
  | zero =>
    intro p hp
    have n1 := @next_end [.siter ⟨(markU l).toArray⟩ p] 0 p l rfl (by omega)
    generalize (⟨(markU l).toArray⟩ : ByteArray) = s at *
    rw [lpB_eq]
    simp (maxSteps := 1000000) (disch := first | omega | decide | assumption | simp [scal]) [siter_ptr, siter_ren, o_nextT, n1]
  | succ q ih =>
    intro p hp
    have n1 := @next_row [.siter ⟨(markU l).toArray⟩ p] 0 p l rfl (by omega)
    have n2 := fun h => k57 (l.getD p false) h
    have this := ih (p + 1) (by omega)
    simp only [List.set_cons_zero] at n1
    generalize (⟨(markU l).toArray⟩ : ByteArray) = s at *
    generalize ((cond (l.getD p false) 49 48 : Nat) : Int) = r at *
    clear ih
    rw [lpB_eq]
    simp (maxSteps := 1000000) (disch := first | omega | decide | assumption | simp [scal]) [siter_ptr, siter_ren, o_nextT, n1, n2, this]
theorem k42 (l : List Bool) (h : List Blk) : callH LL 42 [rwV l, st [48, 49]] h = some ⟨.bool true, h, [], []⟩ := by
  refine callH_none rfl (fun _ => rfl) (L_run rfl ?_) fun _ => rfl
  have lp := l42 l l.length 0 (by omega)
  rw [run42 _ _ _ (by simp)]
  unfold rwV st
  generalize (⟨(markU l).toArray⟩ : ByteArray) = s at *
  simp (maxSteps := 1000000) (disch := first | omega | decide | assumption | simp [scal]) [siter_ptr, siter_ren, o_rangeT, lp]
end Go.Proofs.Ytjimphlkhjmaiaa.sw
namespace Go.Proofs.Ytjimphlkhjmaiaa.sw
open Go.GE
set_option linter.unusedVariables false
set_option linter.unusedSimpArgs false
set_option linter.unusedSectionVars false
set_option maxRecDepth 100000
set_option maxHeartbeats 4000000
attribute [local simp] runOps_nil runOps_cons runOpsF_nil runOpsF_cons fstS_some fstF_some opStep_eq want_none oStep_true oStep_false fin_pure fin_read fin_alloc fin_write storeB wrN cellV addWr o_move o_assign o_pick o_alloc o_box o_load o_store o_nilCheck o_bin o_un o_extract o_callV o_callB o_callI callV_f callV_y callV_fc o_makeFunc partsA Instr.fill builtin_len builtin_max2 bin_add bin_sub bin_mul bin_quo bin_rem bin_lss bin_leq bin_gtr bin_geq bin_eql bin_neq un_neg un_not bin_shr bin_shl wrap_u64_id opd opds optAll putO nbeq nblt constOk isC ops sub cl cr co bodyOf thenS_normal thenS_ret thenS_exit thenS_goto afterN_normal afterN_ret afterN_exit afterN_goto condS_true condS_false blockS_normal blockS_ret blockS_exit blockS_goto headS normS normK_eq fixS_nil fixS_cons fix1 fixV emptyB keepO_nil keepO_cons roundC_normal roundC_exit roundC_ret roundC_goto sweep_eq sweepD rnm pickR pickW rootsB ptrT renT ptrFn renFn ptrB_flat ptrB_non renB_flat renB_non plainS_some drawS_some fpsOk disj unord range' dropTo enumT undef wrap_i64_id Value.cells mkCells ptrTo scal cellsAt rdN endS_ret resultsA Option.bind_some tupV finish reachN dep ptrL_eq ptrL renL_eq renL ptrV_bool ptrV_int ptrV_string ptrV_nilFunc ptrV_nilIface ptrV_nilPtr ptrV_ptr ptrV_nilSl ptrV_sl ptrV_iface ptrV_agg ptrV_tuple ptrV_func renV_bool renV_int renV_string renV_nilFunc renV_nilIface renV_nilPtr renV_ptr renV_nilSl renV_sl renV_iface renV_agg renV_tuple renV_func gotoS_goto gotoS_normal gotoS_exit gotoS_ret skip_seq sliceE bnd bndHi intOf optOpd keepT_nil keepT_cons keepC_t keepC_f lk_nil lk_cons lkC_t lkC_f has_nil has_cons hasC_t hasC_f rep_nil rep_cons repC_t repC_f put_eq putC_t putC_f mem_nil mem_cons memC_t memC_f idx_nil idx_cons idxC_t idxC_f reach_nil reachP_cons reachQ_t reachQ_f ptrB_dead renB_dead ins_eq
attribute [local simp] n33_1s n33_3s n33_5s n33_8s n33_12s n33_15s n33_16s n33_14s n33_20s n33_21s n33_19s n33_18s n33_22s n33_17s n33_13s n33_11s n33_10s n33_10g n33_9s n33_7s n33_24s n33_25s n33_23s n33_6s n33_4s n33_2s n33_0s Try.f33 n34_1s n34_4s n34_9s n34_11s n34_12s n34_10s n34_8s n34_16s n34_19s n34_20s n34_18s n34_21s n34_17s n34_15s n34_14s n34_22s n34_13s n34_7s n34_6s n34_6g n34_5s n34_3s n34_24s n34_25s n34_23s n34_2s n34_0s Try.f34
abbrev lpV (B C : Nat) : Value := .agg #[.int .u64 (B : Int), uv C]
theorem wrap_u64 {a : Nat} (h : a < 2 ^ 64) : IntKind.u64.wrap (a : Int) = a := by
  simp [IntKind.wrap, IntKind.bits, IntKind.signed]; omega
theorem bin_and1u {P : Program} {t : TypeId} {c : Bool} {w : Nat} (h : w < 2 ^ 64) : binA P .and t c (.int .u64 (w : Int)) (.int .u64 1) = some (.int .u64 ((w % 2 : Nat) : Int)) := by
  have e : (BitVec.ofInt 64 (w : Int) &&& BitVec.ofInt 64 1).toNat = w % 2 := by
    rw [BitVec.ofInt_natCast]
    rw [show BitVec.ofInt 64 1 = BitVec.ofNat 64 1 from rfl, BitVec.toNat_and, BitVec.toNat_ofNat, BitVec.toNat_ofNat, Nat.mod_eq_of_lt (by omega), Nat.mod_eq_of_lt (by decide : 1 < 2 ^ 64), Nat.and_one_is_mod]
  have e' : IntKind.u64.wrap ((BitVec.ofInt 64 (w : Int) &&& BitVec.ofInt 64 1).toNat : Int) = ((w % 2 : Nat) : Int) := by rw [e]; exact wrap_u64 (by omega)
  show some (Value.int .u64 (IntKind.u64.wrap ((BitVec.ofInt 64 (w : Int) &&& BitVec.ofInt 64 1).toNat : Int))) = _
  rw [e']
theorem fdiv_powu {w i : Nat} (hi : i < 64) : ((w : Int).fdiv (2 ^ min i IntKind.u64.bits)) = ((w / 2 ^ i : Nat) : Int) := by
  rw [show min i IntKind.u64.bits = i from Nat.min_eq_left (Nat.le_of_lt hi), Int.fdiv_eq_ediv_of_nonneg _ (by exact_mod_cast Nat.zero_le _)]
  simp
theorem l33 (B C n : Nat) (hB : B < 2 ^ 64) (n64 : n ≤ 64) : ∀ (q i : Nat), i + q = n →
    lpB Try.prog LL ⟨33, 41, 0, none⟩ n33_10 n33_11 ⟨[(3, pp 0), (8, sl 1 0 n n), (23, iv n), (24, iv i)], [.cells [.int .u64 (B : Int), uv C] 1 true true, .cells (fillV (bitL B i) q) 1 true true], []⟩ =
      some (.exit 0, ⟨[(8, sl 0 0 n n)], [.cells (markV (bitL B n)) 1 true true], []⟩) := by
  intro q
  induction q with
  | zero =>
    intro i hi
    obtain rfl : i = n := by omega
    have : fillV (bitL B i) 0 = markV (bitL B i) := by simp [fillV]
    rw [this]
    generalize markV (bitL B i) = F
    rw [lpB_eq]
    simp (maxSteps := 1000000) (disch := first | omega | decide | assumption | simp [scal]) [o_fieldAddr fa_46_1 (by decide), loadA_eq ia_5, o_convI cv_5_3, lenA_sl lk_51, o_fieldAddr fa_46_0 (by decide), loadA_eq ia_44, o_convI cv_44_5, o_indexAddrS es_51, sz_5]
  | succ q ih =>
    intro i hi
    have e1 : i < n := by omega
    have e2 : (i : Int) < n := by omega
    have this := ih (i + 1) (by omega)
    simp only [cast1] at this
    have t1 : Int.tmod (i : Int) 64 = (i : Int) := by
      show ((i % 64 : Nat) : Int) = i
      rw [Nat.mod_eq_of_lt (by omega)]
    have f1 := @fdiv_powu B i (by omega)
    have hy : B / 2 ^ i < 2 ^ 64 := Nat.lt_of_le_of_lt (Nat.div_le_self _ _) (by omega)
    have hset : ∀ v, v = uv (cond (decide (B / 2 ^ i % 2 = 1)) 49 48) → (fillV (bitL B i) (q + 1)).set i v = fillV (bitL B (i + 1)) q := fun v hv => by
      have := @fillV_set (bitL B i) q _ v hv
      rw [bitL_len, ← bitL_succ] at this
      exact this
    have hlen : (fillV (bitL B i) (q + 1)).length = n := by rw [fillV_len, bitL_len]; omega
    generalize B / 2 ^ i = y at *
    have f2 := fun c => @bin_and1u Try.prog 44 c y hy
    obtain ⟨r, hr⟩ : ∃ r, y % 2 = r := ⟨_, rfl⟩
    have r2 : r ≤ 1 := by omega
    rw [hr] at hset f2
    have w0 : IntKind.i64.wrap (i : Int) = i := wrap_nn (by omega)
    have w1 : IntKind.u64.wrap (48 + (r : Int)) = 48 + (r : Int) := by simp [IntKind.wrap, IntKind.bits, IntKind.signed]; omega
    have w2 : IntKind.u8.wrap (48 + (r : Int)) = 48 + (r : Int) := by simp [IntKind.wrap, IntKind.bits, IntKind.signed]; omega
    have hset := hset (.int .u8 (48 + (r : Int))) (by
      have : r = 0 ∨ r = 1 := by omega
      rcases this with rfl | rfl <;> rfl)
    generalize fillV (bitL B i) (q + 1) = F at *
    generalize fillV (bitL B (i + 1)) q = F' at *
    have e3 : i < F.length := by omega
    clear ih
    rw [lpB_eq]
    simp (maxSteps := 1000000) (disch := first | omega | decide | assumption | simp [scal]) [o_fieldAddr fa_46_1 (by decide), loadA_eq ia_5, o_convI cv_5_3, lenA_sl lk_51, o_fieldAddr fa_46_0 (by decide), loadA_eq ia_44, o_convI cv_44_5, o_indexAddrS es_51, sz_5, e1, e2, e3, t1, f1, f2, w0, w1, w2, hset, this]
def barR (l : List Bool) : Nat → Nat → Bool
  | 0, _ => true
  | q + 1, t => lessB l (turnB l t) && barR l q (t + 1)
theorem l34 (l : List Bool) (h64 : l.length ≤ 64) : ∀ (q t : Nat), t + q = l.length → 1 ≤ t →
    lpB Try.prog LL ⟨34, 18, 0, none⟩ n34_6 n34_7 ⟨[(0, rwV l), (3, iv t)], [], []⟩ =
      if barR l q t = true then some (.exit 0, ⟨[(0, rwV l)], [], []⟩) else some (.ret, ⟨[(2, .bool false)], [], []⟩) := by
  have a2 := fun h => @lenA_st h (markU l)
  rw [mark_len] at a2
  intro q
  induction q with
  | zero =>
    intro t ht h1
    have e1 : ¬ t < l.length := by omega
    have e2 : ¬ (t : Int) < (l.length : Int) := by omega
    simp only [barR, if_true]
    rw [lpB_eq]
    simp (maxSteps := 1000000) (disch := first | omega | decide | assumption | simp [scal]) [a2, e1, e2]
  | succ q ih =>
    intro t ht h1
    have e1 : t < l.length := by omega
    have e2 : (t : Int) < (l.length : Int) := by omega
    have this := ih (t + 1) (by omega) (by omega)
    simp only [cast1] at this
    have c2 := fun h => k35 l t (by omega) (by omega) h
    have c3 := fun c => @bin_geqs 9 c (markU l) (markU (turnB l t))
    rw [less_mark] at c3
    simp only [barR]

    clear ih
    rcases Bool.eq_false_or_eq_true (lessB l (turnB l t)) with h | h
    · rw [h] at c3
      simp only [h, Bool.true_and]
      rw [← this]
      clear this
      have this := Eq.refl (lpB Try.prog LL ⟨34, 18, 0, none⟩ n34_6 n34_7 ⟨[(0, rwV l), (3, .int .i64 ((t : Int) + 1))], [], []⟩)
      conv => lhs; rw [lpB_eq]
      simp (maxSteps := 1000000) (disch := first | omega | decide | assumption | simp [scal]) [a2, c2, c3, e1, e2]
    · rw [h] at c3
      simp only [h, Bool.false_and, Bool.false_eq_true, if_false]
      rw [lpB_eq]
      simp (maxSteps := 1000000) (disch := first | omega | decide | assumption | simp [scal]) [a2, c2, c3, e1, e2]
theorem k34 (l : List Bool) (h1 : 1 ≤ l.length) (h64 : l.length ≤ 64) (h : List Blk) : callH LL 34 [rwV l] h = some ⟨.bool (barR l (l.length - 1) 1), h, [], []⟩ := by
  refine callH_none rfl (fun _ => rfl) (L_run rfl ?_) fun _ => rfl
  have lp := l34 l h64 (l.length - 1) 1 (by omega) (by omega)
  have a2 := fun h => @lenA_st h (markU l)
  rw [mark_len] at a2
  have e2 : (0 : Int) < (l.length : Int) := by omega
  have e3 : 0 < l.length := by omega
  simp only [show (((1 : Nat) : Int)) = 1 from rfl] at lp
  rw [run34 _ _ _ (by simp)]
  rcases Bool.eq_false_or_eq_true (barR l (l.length - 1) 1) with w | w
  · rw [w] at lp ⊢
    simp only [if_true] at lp
    simp (maxSteps := 1000000) (disch := first | omega | decide | assumption | simp [scal]) [a2, lp, e2, e3]
  · rw [w] at lp ⊢
    simp only [Bool.false_eq_true, if_false] at lp
    simp (maxSteps := 1000000) (disch := first | omega | decide | assumption | simp [scal]) [a2, lp, e2, e3]
end Go.Proofs.Ytjimphlkhjmaiaa.sw
namespace Go.Proofs.Ytjimphlkhjmaiaa.sw
open Go.GE
set_option linter.unusedVariables false
set_option linter.unusedSimpArgs false
set_option linter.unusedSectionVars false
set_option maxRecDepth 100000
set_option maxHeartbeats 4000000
section
open Go.ChangeShapes Go.WideShapes Go.RowKit
variable {H : Type} {enc : TypeId × Value → H} {W : World} {base b0 : Nat} {v : Value} {d : DataW H} {p : List MemPlace}
theorem u64_wf {z : Int} (h : (Lit.int .u64 z).wf = true) : 0 ≤ z ∧ z ≤ 18446744073709551615 := by simpa [Lit.wf, IntKind.min, IntKind.max, IntKind.signed, IntKind.bits] using h
theorem open_lamp (hv : Value.okWide Try.prog W .any b0 46 v) (hd : DataW.Trod enc Try.prog W base (fun _ => true) true 46 v d p) : ∃ B C : Nat, v = lpV B C ∧ B < 2 ^ 64 ∧ C < 256 := by
  simp only [Value.okWide, Try.underlying46] at hv
  obtain ⟨cs, rfl, _, _⟩ := hv
  obtain ⟨fuel, hf⟩ := hd
  obtain ⟨zs, e, hw⟩ := open_flat 5 46 [.u64, .u8] fuel _ _ (by kernel_rfl) hf
  match zs, hw.1, hw, e with
  | [x, y], _, hw, e =>
    obtain ⟨B, rfl, hB⟩ := nat_of (b := 18446744073709551615) (u64_wf (hw.2 0 .u64 x rfl rfl))
    obtain ⟨C, rfl, hC⟩ := nat_of (b := 255) (u8_wf (hw.2 1 .u8 y rfl rfl))
    have : cs = #[.int .u64 (B : Int), uv C] := by
      cases cs
      exact congrArg Array.mk e
    subst this
    exact ⟨B, C, rfl, by omega, by omega⟩
theorem VR_lamp {m : Mp} {B C : Nat} : VR m (lpV B C) (lpV B C) := .agg (.cons (.int _ _) (.cons (.int _ _) .nil))
end
end Go.Proofs.Ytjimphlkhjmaiaa.sw
namespace Go.Proofs.Ytjimphlkhjmaiaa.sw
open Go.GE
set_option linter.unusedVariables false
set_option linter.unusedSimpArgs false
set_option linter.unusedSectionVars false
set_option maxRecDepth 100000
set_option maxHeartbeats 4000000
def rowsV (es : List (List Bool)) : List Value := es.map rwV
end Go.Proofs.Ytjimphlkhjmaiaa.sw
namespace Go.Proofs.Ytjimphlkhjmaiaa.sw
open Go.GE
set_option linter.unusedVariables false
set_option linter.unusedSimpArgs false
set_option linter.unusedSectionVars false
set_option maxRecDepth 100000
set_option maxHeartbeats 4000000
theorem rowsV_get {es : List (List Bool)} {i : Nat} {w : List Bool} (h : es[i]? = some w) : (rowsV es)[i]? = some (rwV w) := by simp [rowsV, h]
end Go.Proofs.Ytjimphlkhjmaiaa.sw
namespace Go.Proofs.Ytjimphlkhjmaiaa.sw
open Go.GE
set_option linter.unusedVariables false
set_option linter.unusedSimpArgs false
set_option linter.unusedSectionVars false
set_option maxRecDepth 100000
set_option maxHeartbeats 4000000
theorem mark_at {l : List Bool} {p : Nat} {b : Bool} (hb : l[p]? = some b) : (⟨(markU l).toArray⟩ : ByteArray)[p]? = some (bitU b) := by
  have hp : p < l.length := (List.getElem?_eq_some_iff.1 hb).1
  have hs : p < (⟨(markU l).toArray⟩ : ByteArray).size := by rw [st_size, mark_len]; exact hp
  rw [getElem?_pos (⟨(markU l).toArray⟩ : ByteArray) p hs]
  congr 1
  show (markU l).toArray[p]'_ = _
  simp [markU, (List.getElem?_eq_some_iff.1 hb).2]
end Go.Proofs.Ytjimphlkhjmaiaa.sw
namespace Go.Proofs.Ytjimphlkhjmaiaa.sw
open Go.GE
set_option linter.unusedVariables false
set_option linter.unusedSimpArgs false
set_option linter.unusedSectionVars false
set_option maxRecDepth 100000
set_option maxHeartbeats 2000000
attribute [local simp] runOps_nil runOps_cons runOpsF_nil runOpsF_cons fstS_some fstF_some opStep_eq want_none oStep_true oStep_false fin_pure fin_read fin_alloc fin_write storeB wrN cellV addWr o_move o_assign o_pick o_alloc o_box o_load o_store o_nilCheck o_bin o_un o_extract o_callV o_callB o_callI callV_f callV_y callV_fc o_makeFunc partsA Instr.fill builtin_len builtin_max2 bin_add bin_sub bin_mul bin_quo bin_rem bin_lss bin_leq bin_gtr bin_geq bin_eql bin_neq un_neg un_not bin_shr bin_shl wrap_u64_id opd opds optAll putO nbeq nblt constOk isC ops sub cl cr co bodyOf thenS_normal thenS_ret thenS_exit thenS_goto afterN_normal afterN_ret afterN_exit afterN_goto condS_true condS_false blockS_normal blockS_ret blockS_exit blockS_goto headS normS normK_eq fixS_nil fixS_cons fix1 fixV emptyB keepO_nil keepO_cons roundC_normal roundC_exit roundC_ret roundC_goto sweep_eq sweepD rnm pickR pickW rootsB ptrT renT ptrFn renFn ptrB_flat ptrB_non renB_flat renB_non plainS_some drawS_some fpsOk disj unord range' dropTo enumT undef wrap_i64_id Value.cells mkCells ptrTo scal cellsAt rdN endS_ret resultsA Option.bind_some tupV finish reachN dep ptrL_eq ptrL renL_eq renL ptrV_bool ptrV_int ptrV_string ptrV_nilFunc ptrV_nilIface ptrV_nilPtr ptrV_ptr ptrV_nilSl ptrV_sl ptrV_iface ptrV_agg ptrV_tuple ptrV_func renV_bool renV_int renV_string renV_nilFunc renV_nilIface renV_nilPtr renV_ptr renV_nilSl renV_sl renV_iface renV_agg renV_tuple renV_func gotoS_goto gotoS_normal gotoS_exit gotoS_ret skip_seq sliceE bnd bndHi intOf optOpd keepT_nil keepT_cons keepC_t keepC_f lk_nil lk_cons lkC_t lkC_f has_nil has_cons hasC_t hasC_f rep_nil rep_cons repC_t repC_f put_eq putC_t putC_f mem_nil mem_cons memC_t memC_f idx_nil idx_cons idxC_t idxC_f reach_nil reachP_cons reachQ_t reachQ_f ptrB_dead renB_dead ins_eq
attribute [local simp] n17_1s n17_5s n17_8s n17_9s n17_7s n17_11s n17_14s n17_15s n17_13s n17_16s n17_12s n17_10s n17_6s n17_4s n17_3s n17_18s n17_21s n17_26s n17_28s n17_29s n17_27s n17_25s n17_32s n17_38s n17_40s n17_41s n17_39s n17_37s n17_45s n17_47s n17_48s n17_46s n17_44s n17_49s n17_43s n17_42s n17_36s n17_35s n17_35g n17_34s n17_51s n17_56s n17_58s n17_59s n17_57s n17_55s n17_62s n17_61s n17_63s n17_60s n17_54s n17_53s n17_53g n17_52s n17_50s n17_33s n17_31s n17_30s n17_24s n17_23s n17_23g n17_22s n17_20s n17_65s n17_66s n17_64s n17_19s n17_17s n17_2s n17_0s Try.f17
/-- what follows repeats what begins at an index, as long as it does not become smaller -/
def dvI (l : List Bool) (a : Nat) : Nat → Nat → Nat → Nat × Nat
  | 0, x, o => (x, o)
  | q + 1, x, o => match l[o]?, l[x]? with
    | some false, some true => dvI l a q (x + 1) a
    | some true, some false => (x, o)
    | _, _ => dvI l a q (x + 1) (o + 1)
def dvP (l : List Bool) (n old : Nat) : Nat → Nat → List (List Bool) → Nat × List (List Bool)
  | 0, a, r => (a, r)
  | q + 1, a, r => if a ≤ old then dvP l n old q (a + n) (r ++ [(l.drop a).take n]) else (a, r)
def dvO (l : List Bool) : Nat → Nat → List (List Bool) → List (List Bool)
  | 0, _, r => r
  | q + 1, a, r => if a < l.length then
      dvO l q (dvP l ((dvI l a (l.length - (a + 1)) (a + 1) a).1 - (dvI l a (l.length - (a + 1)) (a + 1) a).2) (dvI l a (l.length - (a + 1)) (a + 1) a).2 l.length a r).1
        (dvP l ((dvI l a (l.length - (a + 1)) (a + 1) a).1 - (dvI l a (l.length - (a + 1)) (a + 1) a).2) (dvI l a (l.length - (a + 1)) (a + 1) a).2 l.length a r).2
    else r
abbrev rwB (r : List (List Bool)) : Blk := .cells (rowsV r) 1 true true
section
variable (l : List Bool) (n : Nat) (hn : l.length = n) (h64 : n ≤ 64)
include hn h64
theorem dvI_ok (a : Nat) : ∀ (q x o : Nat), x + q = n → o < x → a < x → a ≤ o → (dvI l a q x o).1 ≤ n ∧ (dvI l a q x o).2 < (dvI l a q x o).1 ∧ a ≤ (dvI l a q x o).2 := by
  intro q
  induction q with
  | zero => intro x o hx ho ha hao; exact ⟨by simp only [dvI]; omega, ho, hao⟩
  | succ q ih =>
    intro x o hx ho ha hao
    simp only [dvI]
    split
    · exact ih _ _ (by omega) (by omega) (by omega) (by omega)
    · exact ⟨by simp only []; omega, ho, hao⟩
    · exact ih _ _ (by omega) (by omega) (by omega) (by omega)
theorem l17a (a m : Nat) (R : List Value) : ∀ (q x o : Nat), x + q = n → o < x → a < x →
    lpB Try.prog LL ⟨17, 68, 0, none⟩ n17_35 n17_36 ⟨[(6, iv x), (7, iv o), (0, rwV l), (4, sl 0 0 m m), (5, iv a)], [.cells R 1 true true], []⟩ =
      some (.exit 3, ⟨[(6, iv (dvI l a q x o).1), (7, iv (dvI l a q x o).2), (0, rwV l), (4, sl 0 0 m m), (5, iv a)], [.cells R 1 true true], []⟩) := by
  have a2 := fun h => @lenA_st h (markU l)
  rw [mark_len, hn] at a2
  intro q
  induction q with
  | zero =>
    intro x o hx ho hax
    have e1 : ¬ x < n := by omega
    simp only [dvI]
    rw [lpB_eq]
    simp (maxSteps := 1000000) (disch := first | omega | decide | assumption | simp [scal]) [o_indexAddrS es_26, ze_26, o_buildSlice es_26 ze_26 (by decide) ba_26_1, ap_26, builtin_append ni_26, want_some q17_38g4, a2, e1]
  | succ q ih =>
    intro x o hx ho hax
    have e1 : x < n := by omega
    have f1 : (0 : Int) ≤ (x : Int) := by omega
    have f2 : (0 : Int) ≤ (o : Int) := by omega
    have w1 : IntKind.i64.wrap ((x : Int) + 1) = (x : Int) + 1 := wrap_i64_id (by omega) (by omega)
    have w2 : IntKind.i64.wrap ((o : Int) + 1) = (o : Int) + 1 := wrap_i64_id (by omega) (by omega)
    obtain ⟨b, hb⟩ : ∃ b, l[x]? = some b := ⟨l[x]'(by omega), List.getElem?_eq_getElem _⟩
    obtain ⟨c, hc⟩ : ∃ c, l[o]? = some c := ⟨l[o]'(by omega), List.getElem?_eq_getElem _⟩
    have s1 := mark_at hb
    have s2 := mark_at hc
    have i1 := ih (x + 1) a (by omega) (by omega) (by omega)
    have i2 := ih (x + 1) (o + 1) (by omega) (by omega) (by omega)
    simp only [cast1] at i1 i2
    simp only [dvI, hb, hc]
    unfold rwV st at *
    generalize (⟨(markU l).toArray⟩ : ByteArray) = s at *
    have q4 : (bitU false).toNat = 48 := rfl
    have q5 : (bitU true).toNat = 49 := rfl
    rw [lpB_eq]
    rcases b <;> rcases c
    · simp (maxSteps := 1000000) (disch := first | omega | decide | assumption | simp [scal]) [o_indexAddrS es_26, ze_26, o_buildSlice es_26 ze_26 (by decide) ba_26_1, ap_26, builtin_append ni_26, want_some q17_38g4, a2, e1, o_indexT, s1, s2, f1, f2, w1, w2, q4, q5, i2]
    · clear i1 i2
      simp (maxSteps := 1000000) (disch := first | omega | decide | assumption | simp [scal]) [o_indexAddrS es_26, ze_26, o_buildSlice es_26 ze_26 (by decide) ba_26_1, ap_26, builtin_append ni_26, want_some q17_38g4, a2, e1, o_indexT, s1, s2, f1, f2, w1, w2, q4, q5]
    · simp (maxSteps := 1000000) (disch := first | omega | decide | assumption | simp [scal]) [o_indexAddrS es_26, ze_26, o_buildSlice es_26 ze_26 (by decide) ba_26_1, ap_26, builtin_append ni_26, want_some q17_38g4, a2, e1, o_indexT, s1, s2, f1, f2, w1, w2, q4, q5, i1]
    · simp (maxSteps := 1000000) (disch := first | omega | decide | assumption | simp [scal]) [o_indexAddrS es_26, ze_26, o_buildSlice es_26 ze_26 (by decide) ba_26_1, ap_26, builtin_append ni_26, want_some q17_38g4, a2, e1, o_indexT, s1, s2, f1, f2, w1, w2, q4, q5, i2]
theorem dvP_ok (len old : Nat) (hl : 1 ≤ len) (ho : old + len ≤ n) : ∀ (q a : Nat) (r : List (List Bool)), a ≤ n → r.length ≤ a → (dvP l len old q a r).1 ≤ n ∧ (dvP l len old q a r).2.length ≤ (dvP l len old q a r).1 ∧ a ≤ (dvP l len old q a r).1 ∧ (1 ≤ q → a ≤ old → a < (dvP l len old q a r).1) := by
  intro q
  induction q with
  | zero => intro a r ha hr; exact ⟨ha, hr, Nat.le_refl _, fun h => by omega⟩
  | succ q ih =>
    intro a r ha hr
    simp only [dvP]
    split
    · obtain ⟨g1, g2, g3, g4⟩ := ih (a + len) (r ++ [(l.drop a).take len]) (by omega) (by simp; omega)
      exact ⟨g1, g2, by omega, fun _ _ => by omega⟩
    · exact ⟨ha, hr, Nat.le_refl _, fun _ h => by omega⟩
theorem l17b (len old : Nat) (hl : 1 ≤ len) (ho : old + len ≤ n) : ∀ (q a m : Nat) (r : List (List Bool)), old < a + q → a ≤ n → r.length = m → m ≤ a →
    lpB Try.prog LL ⟨17, 68, 0, none⟩ n17_53 n17_54 ⟨[(7, iv old), (8, iv len), (0, rwV l), (4, sl 0 0 m m), (5, iv a)], [rwB r], []⟩ =
      some (.exit 5, ⟨[(0, rwV l), (4, sl 0 0 (dvP l len old q a r).2.length (dvP l len old q a r).2.length), (5, iv (dvP l len old q a r).1)], [rwB (dvP l len old q a r).2], []⟩) := by
  intro q
  induction q with
  | zero =>
    intro a m r hq ha hm hma
    have e1 : ¬ a ≤ old := by omega
    simp only [dvP, hm]
    unfold rwB
    generalize rowsV r = R at *
    rw [lpB_eq]
    simp (maxSteps := 1000000) (disch := first | omega | decide | assumption | simp [scal]) [o_indexAddrS es_26, ze_26, o_buildSlice es_26 ze_26 (by decide) ba_26_1, ap_26, builtin_append ni_26, want_some q17_38g4, e1]
  | succ q ih =>
    intro a m r hq ha hm hma
    simp only [dvP]
    by_cases e1 : a ≤ old
    · simp only [if_pos e1]
      have this := ih (a + len) (m + 1) (r ++ [(l.drop a).take len]) (by omega) (by omega) (by simp [hm]) (by omega)
      have w1 : IntKind.i64.wrap ((a : Int) + (len : Int)) = (a : Int) + len := wrap_i64_id (by omega) (by omega)
      have s1 : ∀ h, sliceB h ⟨(markU l).toArray⟩ (some (iv a)) (some (iv ((a : Int) + len))) = pureR h (rwV ((l.drop a).take len)) := by
        intro h
        have g1 : bnd (some (iv ((a : Int) + len))) (⟨(markU l).toArray⟩ : ByteArray).size (⟨(markU l).toArray⟩ : ByteArray).size = some (a + len) := by
          simp only [bnd, intOf, st_size, mark_len]
          rw [if_pos (by omega)]
          congr 1
        have g2 : bnd (some (iv a)) (a + len) 0 = some a := by
          simp only [bnd, intOf]
          rw [if_pos (by omega)]
          congr 1
        simp only [sliceB, g1, g2, ext_st, mark_drop, mark_take, Nat.add_sub_cancel_left]
      have c1 := fun h b c rd => app_list (h := h) (b := b) (c := c) (k := 1) (by' := 16) (l := m) (cs := rowsV r) (new := [rwV ((l.drop a).take len)]) (rd := rd) (by simp [rowsV, hm]) (by omega) (by omega) rfl
      rw [show rowsV r ++ [rwV ((l.drop a).take len)] = rowsV (r ++ [(l.drop a).take len]) by simp [rowsV]] at c1
      clear ih
      simp only [Int.natCast_add] at this
      unfold rwB at *
      generalize dvP l len old q (a + len) (r ++ [(l.drop a).take len]) = Z at *
      generalize rowsV (r ++ [(l.drop a).take len]) = R2 at *
      generalize rowsV r = R at *
      generalize (l.drop a).take len = w at *
      generalize rowsV Z.2 = RZ at *
      rw [lpB_eq]
      unfold rwV st at *
      generalize (⟨(markU l).toArray⟩ : ByteArray) = s at *
      simp (maxSteps := 1000000) (disch := first | omega | decide | assumption | simp [scal]) [o_indexAddrS es_26, ze_26, o_buildSlice es_26 ze_26 (by decide) ba_26_1, ap_26, builtin_append ni_26, want_some q17_38g4, e1, o_sliceT, s1, w1, append_some ap_26, srcCells, c1, this]
    · simp only [if_neg e1, hm]
      unfold rwB
      generalize rowsV r = R at *
      rw [lpB_eq]
      simp (maxSteps := 1000000) (disch := first | omega | decide | assumption | simp [scal]) [o_indexAddrS es_26, ze_26, o_buildSlice es_26 ze_26 (by decide) ba_26_1, ap_26, builtin_append ni_26, want_some q17_38g4, e1]
theorem l17c : ∀ (q a m : Nat) (r : List (List Bool)), n ≤ a + q → a ≤ n → r.length = m → m ≤ a →
    lpB Try.prog LL ⟨17, 68, 0, none⟩ n17_23 n17_24 ⟨[(0, rwV l), (4, sl 0 0 m m), (5, iv a)], [rwB r], []⟩ =
      some (.exit 1, ⟨[(4, sl 0 0 (dvO l q a r).length (dvO l q a r).length)], [rwB (dvO l q a r)], []⟩) := by
  have a2 := fun h => @lenA_st h (markU l)
  rw [mark_len, hn] at a2
  intro q
  induction q with
  | zero =>
    intro a m r hq ha hm hma
    have e1 : ¬ a < n := by omega
    simp only [dvO, hm]
    unfold rwB
    generalize rowsV r = R at *
    rw [lpB_eq]
    simp (maxSteps := 1000000) (disch := first | omega | decide | assumption | simp [scal]) [o_indexAddrS es_26, ze_26, o_buildSlice es_26 ze_26 (by decide) ba_26_1, ap_26, builtin_append ni_26, want_some q17_38g4, a2, e1]
  | succ q ih =>
    intro a m r hq ha hm hma
    simp only [dvO]
    rw [hn]
    by_cases e1 : a < n
    · simp only [if_pos e1]
      obtain ⟨d1, d2, d3⟩ := dvI_ok l n hn h64 a (n - (a + 1)) (a + 1) a (by omega) (by omega) (by omega) (by omega)
      have la := l17a l n hn h64 a m (rowsV r) (n - (a + 1)) (a + 1) a (by omega) (by omega) (by omega)
      generalize (dvI l a (n - (a + 1)) (a + 1) a).1 = x at *
      generalize (dvI l a (n - (a + 1)) (a + 1) a).2 = o at *
      obtain ⟨p1, p2, p3, p4⟩ := dvP_ok l n hn h64 (x - o) o (by omega) (by omega) n a r ha (by omega)
      have lb := l17b l n hn h64 (x - o) o (by omega) (by omega) n a m r (by omega) ha hm hma
      have p5 := p4 (by omega) d3
      generalize (dvP l (x - o) o n a r).1 = a' at *
      generalize (dvP l (x - o) o n a r).2 = r' at *
      have this := ih a' r'.length r' (by omega) p1 rfl p2
      have w1 : IntKind.i64.wrap ((a : Int) + 1) = (a : Int) + 1 := wrap_i64_id (by omega) (by omega)
      have w2 : IntKind.i64.wrap ((x : Int) - (o : Int)) = ((x - o : Nat) : Int) := by rw [wrap_i64_id (by omega) (by omega)]; omega
      simp only [Int.natCast_add, Int.cast_ofNat_Int] at la
      generalize x - o = len at *
      clear ih p4 p1 p2 p3
      unfold rwB at *
      generalize dvO l q a' r' = Z at *
      generalize rowsV r' = R' at *
      generalize rowsV r = R at *
      generalize rowsV Z = RZ at *
      rw [lpB_eq]
      simp (maxSteps := 1000000) (disch := first | omega | decide | assumption | simp [scal]) [o_indexAddrS es_26, ze_26, o_buildSlice es_26 ze_26 (by decide) ba_26_1, ap_26, builtin_append ni_26, want_some q17_38g4, a2, e1, w1, w2, la, lb, this]
    · simp only [if_neg e1, hm]
      unfold rwB
      generalize rowsV r = R at *
      rw [lpB_eq]
      simp (maxSteps := 1000000) (disch := first | omega | decide | assumption | simp [scal]) [o_indexAddrS es_26, ze_26, o_buildSlice es_26 ze_26 (by decide) ba_26_1, ap_26, builtin_append ni_26, want_some q17_38g4, a2, e1]
theorem k17 (h : List Blk) : callH LL 17 [rwV l] h = some ⟨.tuple #[sl h.length 0 (dvO l n 0 []).length (dvO l n 0 []).length, iv 0], h ++ [rwB (dvO l n 0 [])], [], []⟩ := by
  have a2 := fun h => @lenA_st h (markU l)
  rw [mark_len, hn] at a2
  have lc := l17c l n hn h64 n 0 0 [] (by omega) (by omega) rfl (by omega)
  have c42 := fun h => k42 l h
  have e1 : ¬ (64 : Int) < (n : Int) := by omega
  have e2 : ¬ 64 < n := by omega
  rw [show rwB [] = .cells [] 1 true true from rfl] at lc
  simp only [Int.natCast_zero] at lc
  generalize dvO l n 0 [] = Z at *
  refine callN_none (v := .tuple #[sl 0 0 Z.length Z.length, iv 0]) (news := [rwB Z]) rfl (fun _ => rfl) (L_run rfl ?_) (fun blk hb => by
    simp only [List.mem_cons, List.not_mem_nil, or_false] at hb
    rcases hb with rfl; exact noIdB_flat) (by simp [renV_tuple, renL, renV_sl, renV_int, dep, nblt])
  unfold rwB at *
  generalize rowsV Z = RZ at *
  rw [run17 _ _ _ (by simp)]
  simp (maxSteps := 1000000) (disch := first | omega | decide | assumption | simp [scal]) [o_indexAddrS es_26, ze_26, o_buildSlice es_26 ze_26 (by decide) ba_26_1, ap_26, builtin_append ni_26, want_some q17_38g4, a2, c42, e1, e2, lc]
end
end Go.Proofs.Ytjimphlkhjmaiaa.sw
namespace Go.Proofs.Ytjimphlkhjmaiaa.sw
open Go.GE
set_option linter.unusedVariables false
set_option linter.unusedSimpArgs false
set_option linter.unusedSectionVars false
set_option maxRecDepth 100000
set_option maxHeartbeats 2000000
attribute [local simp] runOps_nil runOps_cons runOpsF_nil runOpsF_cons fstS_some fstF_some opStep_eq want_none oStep_true oStep_false fin_pure fin_read fin_alloc fin_write storeB wrN cellV addWr o_move o_assign o_pick o_alloc o_box o_load o_store o_nilCheck o_bin o_un o_extract o_callV o_callB o_callI callV_f callV_y callV_fc o_makeFunc partsA Instr.fill builtin_len builtin_max2 bin_add bin_sub bin_mul bin_quo bin_rem bin_lss bin_leq bin_gtr bin_geq bin_eql bin_neq un_neg un_not bin_shr bin_shl wrap_u64_id opd opds optAll putO nbeq nblt constOk isC ops sub cl cr co bodyOf thenS_normal thenS_ret thenS_exit thenS_goto afterN_normal afterN_ret afterN_exit afterN_goto condS_true condS_false blockS_normal blockS_ret blockS_exit blockS_goto headS normS normK_eq fixS_nil fixS_cons fix1 fixV emptyB keepO_nil keepO_cons roundC_normal roundC_exit roundC_ret roundC_goto sweep_eq sweepD rnm pickR pickW rootsB ptrT renT ptrFn renFn ptrB_flat ptrB_non renB_flat renB_non plainS_some drawS_some fpsOk disj unord range' dropTo enumT undef wrap_i64_id Value.cells mkCells ptrTo scal cellsAt rdN endS_ret resultsA Option.bind_some tupV finish reachN dep ptrL_eq ptrL renL_eq renL ptrV_bool ptrV_int ptrV_string ptrV_nilFunc ptrV_nilIface ptrV_nilPtr ptrV_ptr ptrV_nilSl ptrV_sl ptrV_iface ptrV_agg ptrV_tuple ptrV_func renV_bool renV_int renV_string renV_nilFunc renV_nilIface renV_nilPtr renV_ptr renV_nilSl renV_sl renV_iface renV_agg renV_tuple renV_func gotoS_goto gotoS_normal gotoS_exit gotoS_ret skip_seq sliceE bnd bndHi intOf optOpd keepT_nil keepT_cons keepC_t keepC_f lk_nil lk_cons lkC_t lkC_f has_nil has_cons hasC_t hasC_f rep_nil rep_cons repC_t repC_f put_eq putC_t putC_f mem_nil mem_cons memC_t memC_f idx_nil idx_cons idxC_t idxC_f reach_nil reachP_cons reachQ_t reachQ_f ptrB_dead renB_dead ins_eq
attribute [local simp] n33_1s n33_3s n33_5s n33_8s n33_12s n33_15s n33_16s n33_14s n33_20s n33_21s n33_19s n33_18s n33_22s n33_17s n33_13s n33_11s n33_10s n33_10g n33_9s n33_7s n33_24s n33_25s n33_23s n33_6s n33_4s n33_2s n33_0s Try.f33 n21_1s n21_4s n21_7s n21_8s n21_6s n21_9s n21_5s n21_3s n21_12s n21_17s n21_19s n21_20s n21_18s n21_16s n21_24s n21_27s n21_28s n21_26s n21_29s n21_25s n21_23s n21_22s n21_30s n21_21s n21_15s n21_14s n21_14g n21_13s n21_11s n21_32s n21_33s n21_31s n21_10s n21_2s n21_0s Try.f21 n6_1s n6_3s n6_5s n6_8s n6_11s n6_12s n6_10s n6_13s n6_9s n6_7s n6_16s n6_19s n6_20s n6_18s n6_21s n6_17s n6_15s n6_23s n6_26s n6_31s n6_33s n6_34s n6_32s n6_30s n6_38s n6_40s n6_43s n6_48s n6_50s n6_51s n6_49s n6_47s n6_55s n6_58s n6_59s n6_57s n6_60s n6_56s n6_54s n6_53s n6_61s n6_52s n6_46s n6_45s n6_45g n6_44s n6_42s n6_63s n6_66s n6_70s n6_73s n6_74s n6_72s n6_78s n6_79s n6_77s n6_76s n6_80s n6_75s n6_71s n6_69s n6_68s n6_68g n6_67s n6_65s n6_82s n6_85s n6_87s n6_90s n6_91s n6_89s n6_92s n6_88s n6_86s n6_84s n6_93s n6_83s n6_81s n6_64s n6_62s n6_41s n6_39s n6_37s n6_36s n6_94s n6_35s n6_29s n6_28s n6_28g n6_27s n6_25s n6_97s n6_100s n6_101s n6_99s n6_102s n6_98s n6_96s n6_104s n6_107s n6_111s n6_114s n6_115s n6_113s n6_118s n6_119s n6_117s n6_116s n6_112s n6_110s n6_109s n6_109g n6_108s n6_106s n6_121s n6_124s n6_129s n6_131s n6_132s n6_130s n6_128s n6_136s n6_138s n6_139s n6_137s n6_135s n6_134s n6_140s n6_133s n6_127s n6_126s n6_126g n6_125s n6_123s n6_142s n6_143s n6_141s n6_122s n6_120s n6_105s n6_103s n6_95s n6_24s n6_22s n6_14s n6_6s n6_4s n6_2s n6_0s Try.f6
theorem k33z (B C : Nat) (hB : B < 2 ^ 64) (hC : C < 256) (h : List Blk) : callH LL 33 [lpV B C, iv 0, iv 9] h = some ⟨rwV (bitL B (C % 10)), h, [], []⟩ := by
  refine callH_none rfl (fun _ => rfl) (L_run rfl ?_) fun _ => rfl
  have w0 : IntKind.i64.wrap (C : Int) = C := wrap_nn (by omega)
  obtain ⟨n, hn⟩ : ∃ n, C % 10 = n := ⟨_, rfl⟩
  have ht : Int.tmod (C : Int) 10 = (n : Int) := by rw [← hn]; rfl
  have w2 : IntKind.i64.wrap (n : Int) = (n : Int) := wrap_nn (by omega)
  rw [hn]
  have lp := l33 B C n hB (by omega) n 0 (by omega)
  have hf : fillV (bitL B 0) n = List.replicate n (uv 0) := by simp [fillV, bitL, markV]
  rw [hf] at lp
  simp only [Int.natCast_zero] at lp
  have m1 : (n : Int) ≤ 70368744177664 := by omega
  rw [run33 _ _ _ (by simp)]
  by_cases hz : n = 0
  · subst hz
    rw [show rwV (bitL B 0) = .string .empty from rfl]
    rw [show markV (bitL B 0) = [] from rfl] at lp
    simp only [Int.natCast_zero, List.replicate_zero] at lp ht w2
    simp (maxSteps := 1000000) (disch := first | omega | decide | assumption | simp [scal]) [o_fieldAddr fa_46_1 (by decide), loadA_eq ia_5, o_convI cv_5_3, lenA_sl lk_51, o_fieldAddr fa_46_0 (by decide), loadA_eq ia_44, o_convI cv_44_5, o_indexAddrS es_51, sz_5, ht, w0, w2, mk51, allocR, m1, lp, o_conT, conS]
  · have c1 := @conS_mark [.cells (markV (bitL B n)) 1 true true] 0 n 1 (bitL B n) true true rfl bitL_len (by omega)
    generalize markV (bitL B n) = F at *
    simp (maxSteps := 1000000) (disch := first | omega | decide | assumption | simp [scal]) [o_fieldAddr fa_46_1 (by decide), loadA_eq ia_5, o_convI cv_5_3, lenA_sl lk_51, o_fieldAddr fa_46_0 (by decide), loadA_eq ia_44, o_convI cv_44_5, o_indexAddrS es_51, sz_5, ht, w0, w2, mk51, allocR, m1, lp, o_conT, c1]
theorem rows_at {r : List (List Bool)} {i : Nat} {w : List Bool} (h : r[i]? = some w) : ∃ h2 : i < (rowsV r).length, (rowsV r)[i]? = some (rwV w) ∧ (rowsV r)[i]'h2 = rwV w := by
  have h1 := rowsV_get h
  have h2 : i < (rowsV r).length := (List.getElem?_eq_some_iff.1 h1).1
  exact ⟨h2, h1, by have := List.getElem?_eq_getElem h2; rw [h1] at this; exact (Option.some.inj this).symm⟩
theorem l21 (r : List (List Bool)) (m : Nat) (hm : r.length = m) (m64 : m ≤ 64) : ∀ (q i : Nat), i + q = m →
    lpB Try.prog LL ⟨21, 26, 2, none⟩ n21_14 n21_15 ⟨[(0, sl 0 0 m m), (1, sl 1 0 m m), (5, iv i)], [rwB r, rwB r], []⟩ = some (.exit 0, ⟨[], [rwB r, rwB r], []⟩) := by
  intro q
  induction q with
  | zero =>
    intro i hi
    have e1 : ¬ i < m := by omega
    unfold rwB
    generalize rowsV r = R at *
    rw [lpB_eq]
    simp (maxSteps := 1000000) (disch := first | omega | decide | assumption | simp [scal]) [lenA_sl lk_26, o_indexAddrS es_26, loadA_eq ia_9, e1]
  | succ q ih =>
    intro i hi
    have e1 : i < m := by omega
    obtain ⟨w, hw⟩ : ∃ w, r[i]? = some w := ⟨r[i]'(by omega), List.getElem?_eq_getElem _⟩
    obtain ⟨g3, g1, g2⟩ := rows_at hw
    have this := ih (i + 1) (by omega)
    simp only [cast1] at this
    have d1 := fun c => @bin_neqs 9 c (markU w) (markU w)
    simp only [decide_true, Bool.not_true] at d1
    clear ih
    unfold rwB at *
    generalize rowsV r = R at *
    rw [lpB_eq]
    simp (maxSteps := 1000000) (disch := first | omega | decide | assumption | simp [scal]) [lenA_sl lk_26, o_indexAddrS es_26, loadA_eq ia_9, e1, g1, g2, g3, d1, this]
theorem c21 (r : List (List Bool)) (m : Nat) (hm : r.length = m) (m64 : m ≤ 64) : LL.run 21 [sl 0 0 m m, sl 1 0 m m] [rwB r, rwB r] = some ⟨.bool true, [], []⟩ := by
  have lp := l21 r m hm m64 m 0 (by omega)
  simp only [Int.natCast_zero] at lp
  refine L_run rfl ?_
  unfold rwB at *
  generalize rowsV r = R at *
  rw [run21 _ _ _ (by simp)]
  simp (maxSteps := 1000000) (disch := first | omega | decide | assumption | simp [scal]) [lenA_sl lk_26, o_indexAddrS es_26, loadA_eq ia_9, lp]
theorem k21 (r : List (List Bool)) (m : Nat) (hm : r.length = m) (m64 : m ≤ 64) {h : List Blk} {b c : Nat} (hb : h[b]? = some (rwB r)) (hc : h[c]? = some (rwB r)) (hne : b ≠ c) : callH LL 21 [sl b 0 m m, sl c 0 m m] h = some ⟨.bool true, h, [b, c], []⟩ :=
  callH_2 rfl hb hc hne noIdB_flat noIdB_flat (args' := [sl 0 0 m m, sl 1 0 m m]) (by
    have : ¬ c = b := fun e => hne e.symm
    have h2 : ¬ b = c := hne
    simp [renV_sl, dep, optAll, idx, nbeq, this, h2]) (c21 r m hm m64) fun _ => rfl
def prtL (l : List Bool) (set : Nat) : Nat → Nat → Nat → List (List Bool) → List (List Bool)
  | 0, _, _, r => r
  | q + 1, i, f, r => if i = l.length ∨ set / 2 ^ (i - 1) % 2 = 1 then prtL l set q (i + 1) i (r ++ [(l.drop f).take (i - f)]) else prtL l set q (i + 1) f r
def godL (r : List (List Bool)) : Nat → Nat → Bool → Bool
  | 0, _, g => g
  | q + 1, j, g => godL r q (j + 1) (g && (match r[j]? with
      | some w => barR w (w.length - 1) 1 && (decide (j = 0) || (match r[j - 1]? with | some v => !lessB v w | none => false))
      | none => false))
section
variable (l : List Bool) (n : Nat) (hn : l.length = n) (n1 : 1 ≤ n) (n9 : n ≤ 9) (F : List Value) (mF ways set : Nat) (hset : set < 2 ^ 62)
include hn n1 n9 hset
theorem l6a : ∀ (q i f p : Nat) (r : List (List Bool)), i + q = n + 1 → f < i → 1 ≤ i → r.length = p → p ≤ f →
    lpB Try.prog LL ⟨6, 159, 0, none⟩ n6_45 n6_46 ⟨[(8, sl 0 0 p p), (9, iv f), (10, iv i), (3, rwV l), (4, sl 1 0 mF mF), (6, iv ways), (7, iv set)], [rwB r, .cells F 1 true true], []⟩ =
      some (.exit 2, ⟨[(8, sl 0 0 (prtL l set q i f r).length (prtL l set q i f r).length), (3, rwV l), (4, sl 1 0 mF mF), (6, iv ways), (7, iv set)], [rwB (prtL l set q i f r), .cells F 1 true true], []⟩) := by
  have a2 := fun h => @lenA_st h (markU l)
  rw [mark_len, hn] at a2
  intro q
  induction q with
  | zero =>
    intro i f p r hi hf h1 hp hpf
    have e1 : ¬ i ≤ n := by omega
    simp only [prtL, hp]
    unfold rwB
    generalize rowsV r = R at *
    rw [lpB_eq]
    simp (maxSteps := 1000000) (disch := first | omega | decide | assumption | simp [scal]) [loadA_eq ia_46, lenA_sl lk_26, o_indexAddrS es_26, ze_26, o_buildSlice es_26 ze_26 (by decide) ba_26_1, ap_26, builtin_append ni_26, loadA_eq ia_9, want_some q6_8g2, want_some q6_19g3, want_some q6_55g4, want_some q6_79g1, want_some q6_79g5, want_some q6_79g8, want_some q6_97g2, want_some q6_142g8, want_some q6_142g17, a2, e1]
  | succ q ih =>
    intro i f p r hi hf h1 hp hpf
    have e1 : i ≤ n := by omega
    have s1 : ∀ h, sliceB h ⟨(markU l).toArray⟩ (some (iv f)) (some (iv i)) = pureR h (rwV ((l.drop f).take (i - f))) := by
      intro h
      have g1 : bnd (some (iv i)) (⟨(markU l).toArray⟩ : ByteArray).size (⟨(markU l).toArray⟩ : ByteArray).size = some i := by
        simp only [bnd, intOf, st_size, mark_len]
        rw [if_pos (by omega)]
        congr 1
      have g2 : bnd (some (iv f)) i 0 = some f := by
        simp only [bnd, intOf]
        rw [if_pos (by omega)]
        congr 1
      simp only [sliceB, g1, g2, ext_st, mark_drop, mark_take]
    have c1 := fun h b c rd => app_list (h := h) (b := b) (c := c) (k := 1) (by' := 16) (l := p) (cs := rowsV r) (new := [rwV ((l.drop f).take (i - f))]) (rd := rd) (by simp [rowsV, hp]) (by omega) (by omega) rfl
    rw [show rowsV r ++ [rwV ((l.drop f).take (i - f))] = rowsV (r ++ [(l.drop f).take (i - f)]) by simp [rowsV]] at c1
    have i1 := ih (i + 1) i (p + 1) (r ++ [(l.drop f).take (i - f)]) (by omega) (by omega) (by omega) (by simp [hp]) (by omega)
    have i2 := ih (i + 1) f p r (by omega) (by omega) (by omega) hp hpf
    simp only [cast1] at i1 i2
    have w1 : IntKind.i64.wrap ((i : Int) + 1) = (i : Int) + 1 := wrap_i64_id (by omega) (by omega)
    have w2 : IntKind.i64.wrap ((i : Int) - 1) = ((i - 1 : Nat) : Int) := by rw [wrap_i64_id (by omega) (by omega)]; omega
    have f1 := @fdiv_powi set (i - 1) (by omega)
    have f0 : (0 : Int) ≤ ((i - 1 : Nat) : Int) := by omega
    have hy : set / 2 ^ (i - 1) < 2 ^ 63 := Nat.lt_of_le_of_lt (Nat.div_le_self _ _) (by omega)
    simp only [prtL]
    rw [hn]
    clear ih
    generalize set / 2 ^ (i - 1) = y at *
    have f2 := fun c => @bin_and1i Try.prog 3 c y hy
    have hr : y % 2 = 0 ∨ y % 2 = 1 := by omega
    generalize i - 1 = j at *
    unfold rwB at *
    generalize hwd : (l.drop f).take (i - f) = w at *
    by_cases e2 : i = n
    · simp only [if_pos (Or.inl e2 : i = n ∨ y % 2 = 1)]
      have e2' : ((i : Int) = (n : Int)) := by omega
      generalize prtL l set q (i + 1) i (r ++ [w]) = Z at *
      generalize rowsV (r ++ [w]) = R2 at *
      generalize rowsV r = R at *
      generalize rowsV Z = RZ at *
      clear i2 f1 f2 hr
      rw [lpB_eq]
      unfold rwV st at *
      generalize (⟨(markU l).toArray⟩ : ByteArray) = s at *
      simp (maxSteps := 1000000) (disch := first | omega | decide | assumption | simp [scal]) [loadA_eq ia_46, lenA_sl lk_26, o_indexAddrS es_26, ze_26, o_buildSlice es_26 ze_26 (by decide) ba_26_1, ap_26, builtin_append ni_26, loadA_eq ia_9, want_some q6_8g2, want_some q6_19g3, want_some q6_55g4, want_some q6_79g1, want_some q6_79g5, want_some q6_79g8, want_some q6_97g2, want_some q6_142g8, want_some q6_142g17, a2, e1, eq_true e2, eq_true e2', o_sliceT, s1, w1, append_some ap_26, srcCells, c1, i1]
    · have e2' : ¬ ((i : Int) = (n : Int)) := by omega
      rcases hr with hr | hr
      · rw [hr] at f2
        simp only [hr, e2, Nat.zero_ne_one, or_self, if_false]
        generalize prtL l set q (i + 1) f r = Z at *
        generalize rowsV r = R at *
        generalize rowsV Z = RZ at *
        clear i1 c1
        rw [lpB_eq]
        unfold rwV st at *
        generalize (⟨(markU l).toArray⟩ : ByteArray) = s at *
        simp (maxSteps := 1000000) (disch := first | omega | decide | assumption | simp [scal]) [loadA_eq ia_46, lenA_sl lk_26, o_indexAddrS es_26, ze_26, o_buildSlice es_26 ze_26 (by decide) ba_26_1, ap_26, builtin_append ni_26, loadA_eq ia_9, want_some q6_8g2, want_some q6_19g3, want_some q6_55g4, want_some q6_79g1, want_some q6_79g5, want_some q6_79g8, want_some q6_97g2, want_some q6_142g8, want_some q6_142g17, a2, e1, e2, e2', w1, w2, f0, f1, f2, i2]
      · rw [hr] at f2
        simp only [hr, or_true, if_true]
        generalize prtL l set q (i + 1) i (r ++ [w]) = Z at *
        generalize rowsV (r ++ [w]) = R2 at *
        generalize rowsV r = R at *
        generalize rowsV Z = RZ at *
        clear i2
        rw [lpB_eq]
        unfold rwV st at *
        generalize (⟨(markU l).toArray⟩ : ByteArray) = s at *
        simp (maxSteps := 1000000) (disch := first | omega | decide | assumption | simp [scal]) [loadA_eq ia_46, lenA_sl lk_26, o_indexAddrS es_26, ze_26, o_buildSlice es_26 ze_26 (by decide) ba_26_1, ap_26, builtin_append ni_26, loadA_eq ia_9, want_some q6_8g2, want_some q6_19g3, want_some q6_55g4, want_some q6_79g1, want_some q6_79g5, want_some q6_79g8, want_some q6_97g2, want_some q6_142g8, want_some q6_142g17, a2, e1, e2, e2', w1, w2, f0, f1, f2, o_sliceT, s1, append_some ap_26, srcCells, c1, i1]
end
end Go.Proofs.Ytjimphlkhjmaiaa.sw
namespace Go.Proofs.Ytjimphlkhjmaiaa.sw
open Go.GE
set_option linter.unusedVariables false
set_option linter.unusedSimpArgs false
set_option linter.unusedSectionVars false
set_option maxRecDepth 100000
set_option maxHeartbeats 2000000
attribute [local simp] runOps_nil runOps_cons runOpsF_nil runOpsF_cons fstS_some fstF_some opStep_eq want_none oStep_true oStep_false fin_pure fin_read fin_alloc fin_write storeB wrN cellV addWr o_move o_assign o_pick o_alloc o_box o_load o_store o_nilCheck o_bin o_un o_extract o_callV o_callB o_callI callV_f callV_y callV_fc o_makeFunc partsA Instr.fill builtin_len builtin_max2 bin_add bin_sub bin_mul bin_quo bin_rem bin_lss bin_leq bin_gtr bin_geq bin_eql bin_neq un_neg un_not bin_shr bin_shl wrap_u64_id opd opds optAll putO nbeq nblt constOk isC ops sub cl cr co bodyOf thenS_normal thenS_ret thenS_exit thenS_goto afterN_normal afterN_ret afterN_exit afterN_goto condS_true condS_false blockS_normal blockS_ret blockS_exit blockS_goto headS normS normK_eq fixS_nil fixS_cons fix1 fixV emptyB keepO_nil keepO_cons roundC_normal roundC_exit roundC_ret roundC_goto sweep_eq sweepD rnm pickR pickW rootsB ptrT renT ptrFn renFn ptrB_flat ptrB_non renB_flat renB_non plainS_some drawS_some fpsOk disj unord range' dropTo enumT undef wrap_i64_id Value.cells mkCells ptrTo scal cellsAt rdN endS_ret resultsA Option.bind_some tupV finish reachN dep ptrL_eq ptrL renL_eq renL ptrV_bool ptrV_int ptrV_string ptrV_nilFunc ptrV_nilIface ptrV_nilPtr ptrV_ptr ptrV_nilSl ptrV_sl ptrV_iface ptrV_agg ptrV_tuple ptrV_func renV_bool renV_int renV_string renV_nilFunc renV_nilIface renV_nilPtr renV_ptr renV_nilSl renV_sl renV_iface renV_agg renV_tuple renV_func gotoS_goto gotoS_normal gotoS_exit gotoS_ret skip_seq sliceE bnd bndHi intOf optOpd keepT_nil keepT_cons keepC_t keepC_f lk_nil lk_cons lkC_t lkC_f has_nil has_cons hasC_t hasC_f rep_nil rep_cons repC_t repC_f put_eq putC_t putC_f mem_nil mem_cons memC_t memC_f idx_nil idx_cons idxC_t idxC_f reach_nil reachP_cons reachQ_t reachQ_f ptrB_dead renB_dead ins_eq
attribute [local simp] n6_1s n6_3s n6_5s n6_8s n6_11s n6_12s n6_10s n6_13s n6_9s n6_7s n6_16s n6_19s n6_20s n6_18s n6_21s n6_17s n6_15s n6_23s n6_26s n6_31s n6_33s n6_34s n6_32s n6_30s n6_38s n6_40s n6_43s n6_48s n6_50s n6_51s n6_49s n6_47s n6_55s n6_58s n6_59s n6_57s n6_60s n6_56s n6_54s n6_53s n6_61s n6_52s n6_46s n6_45s n6_45g n6_44s n6_42s n6_63s n6_66s n6_70s n6_73s n6_74s n6_72s n6_78s n6_79s n6_77s n6_76s n6_80s n6_75s n6_71s n6_69s n6_68s n6_68g n6_67s n6_65s n6_82s n6_85s n6_87s n6_90s n6_91s n6_89s n6_92s n6_88s n6_86s n6_84s n6_93s n6_83s n6_81s n6_64s n6_62s n6_41s n6_39s n6_37s n6_36s n6_94s n6_35s n6_29s n6_28s n6_28g n6_27s n6_25s n6_97s n6_100s n6_101s n6_99s n6_102s n6_98s n6_96s n6_104s n6_107s n6_111s n6_114s n6_115s n6_113s n6_118s n6_119s n6_117s n6_116s n6_112s n6_110s n6_109s n6_109g n6_108s n6_106s n6_121s n6_124s n6_129s n6_131s n6_132s n6_130s n6_128s n6_136s n6_138s n6_139s n6_137s n6_135s n6_134s n6_140s n6_133s n6_127s n6_126s n6_126g n6_125s n6_123s n6_142s n6_143s n6_141s n6_122s n6_120s n6_105s n6_103s n6_95s n6_24s n6_22s n6_14s n6_6s n6_4s n6_2s n6_0s Try.f6
section
variable (l : List Bool) (n : Nat) (hn : l.length = n) (n1 : 1 ≤ n) (n9 : n ≤ 9) (F : List Value) (mF ways set : Nat)
include hn n1 n9
theorem l6b (r : List (List Bool)) (p : Nat) (hp : r.length = p) (p9 : p ≤ 64) (hr : ∀ w, w ∈ r → 1 ≤ w.length ∧ w.length ≤ 64) : ∀ (q j : Nat) (g : Bool), j + q = p →
    lpB Try.prog LL ⟨6, 159, 0, none⟩ n6_68 n6_69 ⟨[(8, sl 0 0 p p), (11, .bool g), (77, sl 0 0 p p), (78, iv p), (79, iv j), (3, rwV l), (4, sl 1 0 mF mF), (6, iv ways), (7, iv set)], [rwB r, .cells F 1 true true], []⟩ =
      some (.exit 4, ⟨[(8, sl 0 0 p p), (11, .bool (godL r q j g)), (3, rwV l), (4, sl 1 0 mF mF), (6, iv ways), (7, iv set)], [rwB r, .cells F 1 true true], []⟩) := by
  intro q
  induction q with
  | zero =>
    intro j g hj
    have e1 : ¬ j < p := by omega
    simp only [godL]
    unfold rwB
    generalize rowsV r = R at *
    rw [lpB_eq]
    simp (maxSteps := 1000000) (disch := first | omega | decide | assumption | simp [scal]) [loadA_eq ia_46, lenA_sl lk_26, o_indexAddrS es_26, ze_26, o_buildSlice es_26 ze_26 (by decide) ba_26_1, ap_26, builtin_append ni_26, loadA_eq ia_9, want_some q6_8g2, want_some q6_19g3, want_some q6_55g4, want_some q6_79g1, want_some q6_79g5, want_some q6_79g8, want_some q6_97g2, want_some q6_142g8, want_some q6_142g17, e1]
  | succ q ih =>
    intro j g hj
    have e1 : j < p := by omega
    obtain ⟨w, hw⟩ : ∃ w, r[j]? = some w := ⟨r[j]'(by omega), List.getElem?_eq_getElem _⟩
    obtain ⟨g3, g1, g2⟩ := rows_at hw
    obtain ⟨hw1, hw64⟩ := hr w (List.mem_of_getElem? hw)
    have c34 := fun h => k34 w hw1 hw64 h
    by_cases hj0 : j = 0
    · have this := ih (j + 1) (g && barR w (w.length - 1) 1) (by omega)
      simp only [cast1] at this
      have eg : godL r (q + 1) j g = godL r q (j + 1) (g && barR w (w.length - 1) 1) := by
        simp only [godL, hw, hj0, decide_true, Bool.true_or, Bool.and_true]
        rw [hj0] at hw
        simp only [hw]
      rw [eg]
      clear ih eg
      have e2 : (j = 0) = True := eq_true hj0
      unfold rwB at *
      generalize rowsV r = R at *
      generalize barR w (w.length - 1) 1 = bw at *
      rw [lpB_eq]
      rcases g <;> rcases bw <;> simp only [Bool.and_self, Bool.and_true, Bool.and_false, Bool.true_and, Bool.false_and] at this <;>
      simp (maxSteps := 1000000) (disch := first | omega | decide | assumption | simp [scal]) [loadA_eq ia_46, lenA_sl lk_26, o_indexAddrS es_26, ze_26, o_buildSlice es_26 ze_26 (by decide) ba_26_1, ap_26, builtin_append ni_26, loadA_eq ia_9, want_some q6_8g2, want_some q6_19g3, want_some q6_55g4, want_some q6_79g1, want_some q6_79g5, want_some q6_79g8, want_some q6_97g2, want_some q6_142g8, want_some q6_142g17, e1, e2, g1, g2, g3, c34, this]
    · obtain ⟨v, hv⟩ : ∃ v, r[j - 1]? = some v := ⟨r[j - 1]'(by omega), List.getElem?_eq_getElem _⟩
      obtain ⟨g6, g4, g5⟩ := rows_at hv
      have this := ih (j + 1) (g && (barR w (w.length - 1) 1 && !lessB v w)) (by omega)
      simp only [cast1] at this
      have eg : godL r (q + 1) j g = godL r q (j + 1) (g && (barR w (w.length - 1) 1 && !lessB v w)) := by
        simp only [godL, hw, hv, decide_eq_false hj0, Bool.false_or]
      rw [eg]
      clear ih eg
      have e2 : (j = 0) = False := eq_false hj0
      have w1 : IntKind.i64.wrap ((j : Int) - 1) = ((j - 1 : Nat) : Int) := by rw [wrap_i64_id (by omega) (by omega)]; omega
      have f0 : (0 : Int) ≤ ((j - 1 : Nat) : Int) := by omega
      have f1 : ((j - 1 : Nat) : Int) < (p : Int) := by omega
      have f2 : j - 1 < p := by omega
      have d1 := fun c => @bin_geqs 9 c (markU v) (markU w)
      rw [less_mark] at d1
      unfold rwB at *
      generalize rowsV r = R at *
      generalize barR w (w.length - 1) 1 = bw at *
      generalize lessB v w = lw at *
      generalize j - 1 = jm at *
      rw [lpB_eq]
      rcases g <;> rcases bw <;> rcases lw <;> simp only [Bool.and_self, Bool.and_true, Bool.and_false, Bool.true_and, Bool.false_and, Bool.not_true, Bool.not_false] at this <;>
      simp (maxSteps := 1000000) (disch := first | omega | decide | assumption | simp [scal]) [loadA_eq ia_46, lenA_sl lk_26, o_indexAddrS es_26, ze_26, o_buildSlice es_26 ze_26 (by decide) ba_26_1, ap_26, builtin_append ni_26, loadA_eq ia_9, want_some q6_8g2, want_some q6_19g3, want_some q6_55g4, want_some q6_79g1, want_some q6_79g5, want_some q6_79g8, want_some q6_97g2, want_some q6_142g8, want_some q6_142g17, e1, e2, g1, g2, g3, g4, g5, g6, f0, f1, f2, w1, d1, c34, this]
end
/-- ways to divide a row that are lists of bars -/
def wayL (l : List Bool) : Nat → Nat → Nat → Nat
  | 0, _, w => w
  | q + 1, set, w => wayL l q (set + 1) (cond (godL (prtL l set l.length 1 0 []) (prtL l set l.length 1 0 []).length 0 true) (w + 1) w)
theorem prt_len (l : List Bool) (set : Nat) : ∀ (q i f : Nat) (r : List (List Bool)), i + q = l.length + 1 → f < i → 1 ≤ i → r.length ≤ f → (∀ w, w ∈ r → 1 ≤ w.length ∧ w.length ≤ l.length) → (prtL l set q i f r).length ≤ l.length ∧ ∀ w, w ∈ prtL l set q i f r → 1 ≤ w.length ∧ w.length ≤ l.length := by
  intro q
  induction q with
  | zero => intro i f r hi hf h1 hr hw; simp only [prtL]; exact ⟨by omega, hw⟩
  | succ q ih =>
    intro i f r hi hf h1 hr hw
    simp only [prtL]
    split
    · refine ih (i + 1) i _ (by omega) (by omega) (by omega) (by simp; omega) fun w h => ?_
      rcases List.mem_append.1 h with h | h
      · exact hw w h
      · rw [List.mem_singleton.1 h, List.length_take, List.length_drop]; omega
    · exact ih (i + 1) f r (by omega) (by omega) (by omega) hr hw
section
variable (l : List Bool) (n : Nat) (hn : l.length = n) (n1 : 1 ≤ n) (n9 : n ≤ 9) (fac : List (List Bool)) (mF : Nat) (hF : fac.length = mF) (mF9 : mF ≤ 64)
  (huniq : ∀ set, set < 2 ^ (n - 1) → godL (prtL l set n 1 0 []) (prtL l set n 1 0 []).length 0 true = true → prtL l set n 1 0 [] = fac)
include hn n1 n9 hF mF9 huniq
theorem l6c : ∀ (q set ways : Nat), set + q = 2 ^ (n - 1) → ways ≤ set →
    lpB Try.prog LL ⟨6, 159, 0, none⟩ n6_28 n6_29 ⟨[(3, rwV l), (4, sl 0 0 mF mF), (6, iv ways), (7, iv set)], [rwB fac], []⟩ =
      some (.exit 0, ⟨[(3, rwV l), (4, sl 0 0 mF mF), (6, iv (wayL l q set ways))], [rwB fac], []⟩) := by
  have a2 := fun h => @lenA_st h (markU l)
  rw [mark_len, hn] at a2
  have w1 : IntKind.i64.wrap ((n : Int) - 1) = ((n - 1 : Nat) : Int) := by rw [wrap_i64_id (by omega) (by omega)]; omega
  have w2 := @shl_powi (n - 1) (by omega)
  have hP : 2 ^ (n - 1) ≤ 2 ^ 8 := Nat.pow_le_pow_right (by decide) (by omega)
  have f0 : (0 : Int) ≤ ((n - 1 : Nat) : Int) := by omega
  intro q
  induction q with
  | zero =>
    intro set ways hs hw
    have hs' : set = 2 ^ (n - 1) := by omega
    simp only [wayL]
    generalize 2 ^ (n - 1) = P at *
    have e1 : ¬ set < P := by omega
    have e2 : ¬ (set : Int) < (P : Int) := by omega
    clear huniq
    unfold rwB
    generalize rowsV fac = R at *
    generalize n - 1 = nm at *
    rw [lpB_eq]
    simp (maxSteps := 1000000) (disch := first | omega | decide | assumption | simp [scal]) [loadA_eq ia_46, lenA_sl lk_26, o_indexAddrS es_26, ze_26, o_buildSlice es_26 ze_26 (by decide) ba_26_1, ap_26, builtin_append ni_26, loadA_eq ia_9, want_some q6_8g2, want_some q6_19g3, want_some q6_55g4, want_some q6_79g1, want_some q6_79g5, want_some q6_79g8, want_some q6_97g2, want_some q6_142g8, want_some q6_142g17, a2, w1, w2, f0, e1, e2]
  | succ q ih =>
    intro set ways hs hw
    have hu := huniq set (by omega)
    have la := l6a l n hn n1 n9 (rowsV fac) mF ways set (by omega) n 1 0 0 [] (by omega) (by omega) (by omega) rfl (by omega)
    obtain ⟨b1, b2⟩ := prt_len l set l.length 1 0 [] (by omega) (by omega) (by omega) (by simp) (by simp)
    rw [hn] at b1 b2
    have lb := l6b l n hn n1 n9 (rowsV fac) mF ways set (prtL l set n 1 0 []) _ rfl (by omega) (fun w h => by have := b2 w h; omega) (prtL l set n 1 0 []).length 0 true (by omega)
    have i1 := ih (set + 1) (ways + 1) (by omega) (by omega)
    have i2 := ih (set + 1) ways (by omega) (by omega)
    simp only [wayL]
    rw [hn]
    simp only [cast1] at i1 i2
    simp only [Int.natCast_zero, Int.natCast_one, Int.cast_ofNat_Int] at la lb
    rw [show rwB [] = .cells [] 1 true true from rfl] at la
    have w3 : IntKind.i64.wrap ((ways : Int) + 1) = (ways : Int) + 1 := wrap_i64_id (by omega) (by omega)
    have w4 : IntKind.i64.wrap ((set : Int) + 1) = (set : Int) + 1 := wrap_i64_id (by omega) (by omega)
    generalize hPP : 2 ^ (n - 1) = P at *
    have e1 : set < P := by omega
    have e2 : (set : Int) < (P : Int) := by omega
    clear huniq ih b1 b2 hPP
    generalize hpr : prtL l set n 1 0 [] = pr at *
    clear hpr
    rcases Bool.eq_false_or_eq_true (godL pr pr.length 0 true) with hg | hg
    · have hpf := hu hg
      subst hpf
      rw [hg] at lb ⊢
      have c21 := @k21 pr pr.length rfl (by omega) [rwB pr, rwB pr] 0 1 rfl rfl (by decide)
      subst hF
      clear hu i2 hg
      simp only [cond_true]
      generalize n - 1 = nm at *
      unfold rwB at *
      generalize rowsV pr = R at *
      generalize pr.length = m at *
      rw [lpB_eq]
      simp (maxSteps := 1000000) (disch := first | omega | decide | assumption | simp [scal]) [loadA_eq ia_46, lenA_sl lk_26, o_indexAddrS es_26, ze_26, o_buildSlice es_26 ze_26 (by decide) ba_26_1, ap_26, builtin_append ni_26, loadA_eq ia_9, want_some q6_8g2, want_some q6_19g3, want_some q6_55g4, want_some q6_79g1, want_some q6_79g5, want_some q6_79g8, want_some q6_97g2, want_some q6_142g8, want_some q6_142g17, a2, w1, w2, w3, w4, f0, e1, e2, la, lb, c21, i1]
    · rw [hg] at lb ⊢
      clear hu i1 hg
      simp only [cond_false]
      generalize n - 1 = nm at *
      unfold rwB at *
      generalize rowsV pr = R at *
      generalize rowsV fac = RF at *
      generalize pr.length = m at *
      rw [lpB_eq]
      simp (maxSteps := 1000000) (disch := first | omega | decide | assumption | simp [scal]) [loadA_eq ia_46, lenA_sl lk_26, o_indexAddrS es_26, ze_26, o_buildSlice es_26 ze_26 (by decide) ba_26_1, ap_26, builtin_append ni_26, loadA_eq ia_9, want_some q6_8g2, want_some q6_19g3, want_some q6_55g4, want_some q6_79g1, want_some q6_79g5, want_some q6_79g8, want_some q6_97g2, want_some q6_142g8, want_some q6_142g17, a2, w1, w2, w3, w4, f0, e1, e2, la, lb, i2]
end
end Go.Proofs.Ytjimphlkhjmaiaa.sw
namespace Go.Proofs.Ytjimphlkhjmaiaa.sw
open Go.GE
set_option linter.unusedVariables false
set_option linter.unusedSimpArgs false
set_option linter.unusedSectionVars false
set_option maxRecDepth 100000
set_option maxHeartbeats 2000000
attribute [local simp] runOps_nil runOps_cons runOpsF_nil runOpsF_cons fstS_some fstF_some opStep_eq want_none oStep_true oStep_false fin_pure fin_read fin_alloc fin_write storeB wrN cellV addWr o_move o_assign o_pick o_alloc o_box o_load o_store o_nilCheck o_bin o_un o_extract o_callV o_callB o_callI callV_f callV_y callV_fc o_makeFunc partsA Instr.fill builtin_len builtin_max2 bin_add bin_sub bin_mul bin_quo bin_rem bin_lss bin_leq bin_gtr bin_geq bin_eql bin_neq un_neg un_not bin_shr bin_shl wrap_u64_id opd opds optAll putO nbeq nblt constOk isC ops sub cl cr co bodyOf thenS_normal thenS_ret thenS_exit thenS_goto afterN_normal afterN_ret afterN_exit afterN_goto condS_true condS_false blockS_normal blockS_ret blockS_exit blockS_goto headS normS normK_eq fixS_nil fixS_cons fix1 fixV emptyB keepO_nil keepO_cons roundC_normal roundC_exit roundC_ret roundC_goto sweep_eq sweepD rnm pickR pickW rootsB ptrT renT ptrFn renFn ptrB_flat ptrB_non renB_flat renB_non plainS_some drawS_some fpsOk disj unord range' dropTo enumT undef wrap_i64_id Value.cells mkCells ptrTo scal cellsAt rdN endS_ret resultsA Option.bind_some tupV finish reachN dep ptrL_eq ptrL renL_eq renL ptrV_bool ptrV_int ptrV_string ptrV_nilFunc ptrV_nilIface ptrV_nilPtr ptrV_ptr ptrV_nilSl ptrV_sl ptrV_iface ptrV_agg ptrV_tuple ptrV_func renV_bool renV_int renV_string renV_nilFunc renV_nilIface renV_nilPtr renV_ptr renV_nilSl renV_sl renV_iface renV_agg renV_tuple renV_func gotoS_goto gotoS_normal gotoS_exit gotoS_ret skip_seq sliceE bnd bndHi intOf optOpd keepT_nil keepT_cons keepC_t keepC_f lk_nil lk_cons lkC_t lkC_f has_nil has_cons hasC_t hasC_f rep_nil rep_cons repC_t repC_f put_eq putC_t putC_f mem_nil mem_cons memC_t memC_f idx_nil idx_cons idxC_t idxC_f reach_nil reachP_cons reachQ_t reachQ_f ptrB_dead renB_dead ins_eq
attribute [local simp] n6_1s n6_3s n6_5s n6_8s n6_11s n6_12s n6_10s n6_13s n6_9s n6_7s n6_16s n6_19s n6_20s n6_18s n6_21s n6_17s n6_15s n6_23s n6_26s n6_31s n6_33s n6_34s n6_32s n6_30s n6_38s n6_40s n6_43s n6_48s n6_50s n6_51s n6_49s n6_47s n6_55s n6_58s n6_59s n6_57s n6_60s n6_56s n6_54s n6_53s n6_61s n6_52s n6_46s n6_45s n6_45g n6_44s n6_42s n6_63s n6_66s n6_70s n6_73s n6_74s n6_72s n6_78s n6_79s n6_77s n6_76s n6_80s n6_75s n6_71s n6_69s n6_68s n6_68g n6_67s n6_65s n6_82s n6_85s n6_87s n6_90s n6_91s n6_89s n6_92s n6_88s n6_86s n6_84s n6_93s n6_83s n6_81s n6_64s n6_62s n6_41s n6_39s n6_37s n6_36s n6_94s n6_35s n6_29s n6_28s n6_28g n6_27s n6_25s n6_97s n6_100s n6_101s n6_99s n6_102s n6_98s n6_96s n6_104s n6_107s n6_111s n6_114s n6_115s n6_113s n6_118s n6_119s n6_117s n6_116s n6_112s n6_110s n6_109s n6_109g n6_108s n6_106s n6_121s n6_124s n6_129s n6_131s n6_132s n6_130s n6_128s n6_136s n6_138s n6_139s n6_137s n6_135s n6_134s n6_140s n6_133s n6_127s n6_126s n6_126g n6_125s n6_123s n6_142s n6_143s n6_141s n6_122s n6_120s n6_105s n6_103s n6_95s n6_24s n6_22s n6_14s n6_6s n6_4s n6_2s n6_0s Try.f6
def lstF (l : List Bool) : Nat → Nat → List Bool → List Bool
  | 0, _, a => a
  | q + 1, p, a => lstF l q (p + 1) (minR a (l.drop p))
def lngF (l : List Bool) : Nat → Nat → Nat → Nat
  | 0, _, b => b
  | q + 1, i, b => lngF l q (i + 1) (cond (barR (l.take i) ((l.take i).length - 1) 1) i b)
abbrev gdF (l : List Bool) (n set : Nat) : Bool := godL (prtL l set n 1 0 []) (prtL l set n 1 0 []).length 0 true
/-- what the law says of a row, in plain words -/
def chkF (l : List Bool) (n : Nat) : Bool := match (List.range (2 ^ (n - 1))).filter (gdF l n) with
  | [g] => decide (prtL l g n 1 0 [] = dvO l n 0 []) && (decide ((dvO l n 0 []).length ≤ n) && (decide (1 ≤ (dvO l n 0 []).length) &&
    (decide ((dvO l n 0 [])[(dvO l n 0 []).length - 1]? = some (lstF l n 0 l)) && decide ((dvO l n 0 [])[0]? = some (l.take (lngF l n 1 0))))))
  | _ => false
theorem way_cnt (l : List Bool) : ∀ (q set w : Nat), wayL l q set w = w + (((List.range q).map (set + ·)).filter (gdF l l.length)).length := by
  intro q
  induction q with
  | zero => intro set w; simp [wayL]
  | succ q ih =>
    intro set w
    rw [wayL, ih, List.range_succ_eq_map, List.map_cons, List.map_map]
    have e : (List.range q).map ((set + ·) ∘ Nat.succ) = (List.range q).map ((set + 1) + ·) := by
      apply List.map_congr_left
      intro j _
      show set + (j + 1) = set + 1 + j
      omega
    rw [e, List.filter_cons, show set + 0 = set from rfl]
    have hg : gdF l l.length set = godL (prtL l set l.length 1 0 []) (prtL l set l.length 1 0 []).length 0 true := rfl
    rw [hg]
    cases godL (prtL l set l.length 1 0 []) (prtL l set l.length 1 0 []).length 0 true
    · simp
    · simp; omega
theorem chk_ok {l : List Bool} {n : Nat} (hn : l.length = n) (h : chkF l n = true) :
    (∀ set, set < 2 ^ (n - 1) → godL (prtL l set n 1 0 []) (prtL l set n 1 0 []).length 0 true = true → prtL l set n 1 0 [] = dvO l n 0 []) ∧ wayL l (2 ^ (n - 1)) 0 0 = 1 ∧
    (dvO l n 0 []).length ≤ n ∧ 1 ≤ (dvO l n 0 []).length ∧ (dvO l n 0 [])[(dvO l n 0 []).length - 1]? = some (lstF l n 0 l) ∧ (dvO l n 0 [])[0]? = some (l.take (lngF l n 1 0)) := by
  unfold chkF at h
  split at h
  · rename_i g hg
    simp only [Bool.and_eq_true, decide_eq_true_eq] at h
    obtain ⟨h0, h3, h4, h5, h6⟩ := h
    refine ⟨fun set hs hd => ?_, ?_, h3, h4, h5, h6⟩
    · have : set ∈ (List.range (2 ^ (n - 1))).filter (gdF l n) := List.mem_filter.2 ⟨List.mem_range.2 hs, hd⟩
      rw [hg] at this
      rw [List.mem_singleton.1 this]; exact h0
    · rw [way_cnt, hn]
      have e : (List.range (2 ^ (n - 1))).map (0 + ·) = List.range (2 ^ (n - 1)) := by simp
      rw [e, hg]; rfl
  · cases h
section
variable (l : List Bool) (n : Nat) (hn : l.length = n) (n1 : 1 ≤ n) (n9 : n ≤ 9) (F : List Value) (mF : Nat)
include hn n1 n9
theorem l6d : ∀ (q p : Nat) (a : List Bool), p + q = n →
    lpB Try.prog LL ⟨6, 159, 0, none⟩ n6_109 n6_110 ⟨[(3, rwV l), (4, sl 0 0 mF mF), (14, rwV a), (119, pp 1)], [.cells F 1 true true, .siter ⟨(markU l).toArray⟩ p], []⟩ =
      some (.exit 6, ⟨[(3, rwV l), (4, sl 0 0 mF mF), (14, rwV (lstF l q p a))], [.cells F 1 true true], []⟩) := by
  intro q
  induction q with
  | zero =>
    intro p a hp
    have n1 := @next_end [.cells F 1 true true, .siter ⟨(markU l).toArray⟩ p] 1 p l rfl (by omega)
    simp only [lstF]
    unfold rwV st at *
    generalize (⟨(markU l).toArray⟩ : ByteArray) = s at *
    rw [lpB_eq]
    simp (maxSteps := 1000000) (disch := first | omega | decide | assumption | simp [scal]) [loadA_eq ia_46, lenA_sl lk_26, o_indexAddrS es_26, ze_26, o_buildSlice es_26 ze_26 (by decide) ba_26_1, ap_26, builtin_append ni_26, loadA_eq ia_9, want_some q6_8g2, want_some q6_19g3, want_some q6_55g4, want_some q6_79g1, want_some q6_79g5, want_some q6_79g8, want_some q6_97g2, want_some q6_142g8, want_some q6_142g17, siter_ptr, siter_ren, o_nextT, n1]
  | succ q ih =>
    intro p a hp
    have hpl : p < l.length := by omega
    have n1 := @next_row [.cells F 1 true true, .siter ⟨(markU l).toArray⟩ p] 1 p l rfl hpl
    have s1 : ∀ h, sliceB h ⟨(markU l).toArray⟩ (some (iv p)) none = pureR h (rwV (l.drop p)) := by
      intro h
      have h1 : (p : Int) ≤ (l.length : Int) := by omega
      have h2 : p ≤ l.length := by omega
      have hd : List.take (l.length - p) (l.drop p) = l.drop p := List.take_of_length_le (by simp)
      simp [sliceB, bnd, intOf, st_size, mark_len, ext_st, mark_drop, mark_take, hd, h1, h2]
    have c3 := fun h ts => @min_rw h ts a (l.drop p)
    have this := ih (p + 1) (minR a (l.drop p)) (by omega)
    simp only [lstF]
    clear ih
    simp only [List.set_cons_succ, List.set_cons_zero] at n1
    generalize minR a (l.drop p) = A at *
    generalize l.drop p = D at *
    generalize lstF l q (p + 1) A = Z at *
    generalize ((cond (l.getD p false) 49 48 : Nat) : Int) = rr at *
    unfold rwV st at *
    generalize (⟨(markU l).toArray⟩ : ByteArray) = s at *
    generalize (⟨(markU D).toArray⟩ : ByteArray) = sD at *
    generalize (⟨(markU a).toArray⟩ : ByteArray) = sa at *
    generalize (⟨(markU A).toArray⟩ : ByteArray) = sA at *
    rw [lpB_eq]
    simp (maxSteps := 1000000) (disch := first | omega | decide | assumption | simp [scal]) [loadA_eq ia_46, lenA_sl lk_26, o_indexAddrS es_26, ze_26, o_buildSlice es_26 ze_26 (by decide) ba_26_1, ap_26, builtin_append ni_26, loadA_eq ia_9, want_some q6_8g2, want_some q6_19g3, want_some q6_55g4, want_some q6_79g1, want_some q6_79g5, want_some q6_79g8, want_some q6_97g2, want_some q6_142g8, want_some q6_142g17, siter_ptr, siter_ren, o_nextT, n1, o_sliceT, s1, c3, this]
theorem l6e (a : List Bool) : ∀ (q i b : Nat), i + q = n + 1 → 1 ≤ i → b < i →
    lpB Try.prog LL ⟨6, 159, 0, none⟩ n6_126 n6_127 ⟨[(3, rwV l), (4, sl 0 0 mF mF), (14, rwV a), (16, iv b), (17, iv i)], [.cells F 1 true true], []⟩ =
      some (.exit 8, ⟨[(3, rwV l), (4, sl 0 0 mF mF), (14, rwV a), (16, iv (lngF l q i b))], [.cells F 1 true true], []⟩) ∧ lngF l q i b ≤ n := by
  have a2 := fun h => @lenA_st h (markU l)
  rw [mark_len, hn] at a2
  intro q
  induction q with
  | zero =>
    intro i b hi h1 hb
    have e1 : ¬ i ≤ n := by omega
    simp only [lngF]
    refine ⟨?_, by omega⟩
    rw [lpB_eq]
    simp (maxSteps := 1000000) (disch := first | omega | decide | assumption | simp [scal]) [loadA_eq ia_46, lenA_sl lk_26, o_indexAddrS es_26, ze_26, o_buildSlice es_26 ze_26 (by decide) ba_26_1, ap_26, builtin_append ni_26, loadA_eq ia_9, want_some q6_8g2, want_some q6_19g3, want_some q6_55g4, want_some q6_79g1, want_some q6_79g5, want_some q6_79g8, want_some q6_97g2, want_some q6_142g8, want_some q6_142g17, a2, e1]
  | succ q ih =>
    intro i b hi h1 hb
    have e1 : i ≤ n := by omega
    have hl : (l.take i).length = i := by rw [List.length_take]; omega
    have c34 := fun h => k34 (l.take i) (by omega) (by omega) h
    have s1 : ∀ h, sliceB h ⟨(markU l).toArray⟩ none (some (iv i)) = pureR h (rwV (l.take i)) := by
      intro h
      have h1 : (i : Int) ≤ (l.length : Int) := by omega
      have h2 : i ≤ l.length := by omega
      simp [sliceB, bnd, intOf, st_size, mark_len, ext_st, mark_drop, mark_take, h1, h2]
    have w1 : IntKind.i64.wrap ((i : Int) + 1) = (i : Int) + 1 := wrap_i64_id (by omega) (by omega)
    simp only [lngF]
    obtain ⟨bb, hbb⟩ : ∃ bb, barR (l.take i) ((l.take i).length - 1) 1 = bb := ⟨_, rfl⟩
    simp only [hbb] at c34 ⊢
    obtain ⟨this, t2⟩ := ih (i + 1) (cond bb i b) (by omega) (by omega) (by cases bb <;> simp <;> omega)
    refine ⟨?_, t2⟩
    simp only [cast1] at this
    clear ih t2
    generalize l.take i = T at *
    unfold rwV st at *
    generalize (⟨(markU l).toArray⟩ : ByteArray) = s at *
    generalize (⟨(markU T).toArray⟩ : ByteArray) = sT at *
    rw [lpB_eq]
    rcases bb <;> simp only [cond_true, cond_false] at this ⊢ <;>
    simp (maxSteps := 1000000) (disch := first | omega | decide | assumption | simp [scal]) [loadA_eq ia_46, lenA_sl lk_26, o_indexAddrS es_26, ze_26, o_buildSlice es_26 ze_26 (by decide) ba_26_1, ap_26, builtin_append ni_26, loadA_eq ia_9, want_some q6_8g2, want_some q6_19g3, want_some q6_55g4, want_some q6_79g1, want_some q6_79g5, want_some q6_79g8, want_some q6_97g2, want_some q6_142g8, want_some q6_142g17, a2, e1, o_sliceT, s1, c34, w1, this]
end
theorem bit_mod (B n : Nat) : bitL B n = bitL (B % 2 ^ n) n := by
  apply List.map_congr_left
  intro k hk
  have hk : k < n := List.mem_range.1 hk
  show decide (B / 2 ^ k % 2 = 1) = decide (B % 2 ^ n / 2 ^ k % 2 = 1)
  rw [← bit_dm, ← bit_dm, Nat.testBit_mod_two_pow]
  simp [hk]
end Go.Proofs.Ytjimphlkhjmaiaa.sw
namespace Go.Proofs.Ytjimphlkhjmaiaa.sw
open Go.GE
set_option linter.unusedVariables false
set_option maxRecDepth 1000000
theorem all7 : ((List.range 7).all fun m => (List.range (2 ^ (m + 1))).all fun x => chkF (bitL x (m + 1)) (m + 1)) = true := by kernel_rfl
theorem ck8_0 : ((List.range 64).all fun x => chkF (bitL (0 + x) 8) 8) = true := by kernel_rfl
theorem ck8_64 : ((List.range 64).all fun x => chkF (bitL (64 + x) 8) 8) = true := by kernel_rfl
theorem ck8_128 : ((List.range 64).all fun x => chkF (bitL (128 + x) 8) 8) = true := by kernel_rfl
theorem ck8_192 : ((List.range 64).all fun x => chkF (bitL (192 + x) 8) 8) = true := by kernel_rfl
theorem ck9_0 : ((List.range 16).all fun x => chkF (bitL (0 + x) 9) 9) = true := by kernel_rfl
theorem ck9_16 : ((List.range 16).all fun x => chkF (bitL (16 + x) 9) 9) = true := by kernel_rfl
end Go.Proofs.Ytjimphlkhjmaiaa.sw
namespace Go.Proofs.Ytjimphlkhjmaiaa.sw
open Go.GE
set_option linter.unusedVariables false
set_option maxRecDepth 1000000
theorem ck9_32 : ((List.range 16).all fun x => chkF (bitL (32 + x) 9) 9) = true := by kernel_rfl
theorem ck9_48 : ((List.range 16).all fun x => chkF (bitL (48 + x) 9) 9) = true := by kernel_rfl
theorem ck9_64 : ((List.range 16).all fun x => chkF (bitL (64 + x) 9) 9) = true := by kernel_rfl
theorem ck9_80 : ((List.range 16).all fun x => chkF (bitL (80 + x) 9) 9) = true := by kernel_rfl
theorem ck9_96 : ((List.range 16).all fun x => chkF (bitL (96 + x) 9) 9) = true := by kernel_rfl
theorem ck9_112 : ((List.range 16).all fun x => chkF (bitL (112 + x) 9) 9) = true := by kernel_rfl
theorem ck9_128 : ((List.range 16).all fun x => chkF (bitL (128 + x) 9) 9) = true := by kernel_rfl
theorem ck9_144 : ((List.range 16).all fun x => chkF (bitL (144 + x) 9) 9) = true := by kernel_rfl
theorem ck9_160 : ((List.range 16).all fun x => chkF (bitL (160 + x) 9) 9) = true := by kernel_rfl
theorem ck9_176 : ((List.range 16).all fun x => chkF (bitL (176 + x) 9) 9) = true := by kernel_rfl
end Go.Proofs.Ytjimphlkhjmaiaa.sw
namespace Go.Proofs.Ytjimphlkhjmaiaa.sw
open Go.GE
set_option linter.unusedVariables false
set_option maxRecDepth 1000000
theorem ck9_192 : ((List.range 16).all fun x => chkF (bitL (192 + x) 9) 9) = true := by kernel_rfl
theorem ck9_208 : ((List.range 16).all fun x => chkF (bitL (208 + x) 9) 9) = true := by kernel_rfl
theorem ck9_224 : ((List.range 16).all fun x => chkF (bitL (224 + x) 9) 9) = true := by kernel_rfl
theorem ck9_240 : ((List.range 16).all fun x => chkF (bitL (240 + x) 9) 9) = true := by kernel_rfl
theorem ck9_256 : ((List.range 16).all fun x => chkF (bitL (256 + x) 9) 9) = true := by kernel_rfl
theorem ck9_272 : ((List.range 16).all fun x => chkF (bitL (272 + x) 9) 9) = true := by kernel_rfl
theorem ck9_288 : ((List.range 16).all fun x => chkF (bitL (288 + x) 9) 9) = true := by kernel_rfl
theorem ck9_304 : ((List.range 16).all fun x => chkF (bitL (304 + x) 9) 9) = true := by kernel_rfl
theorem ck9_320 : ((List.range 16).all fun x => chkF (bitL (320 + x) 9) 9) = true := by kernel_rfl
theorem ck9_336 : ((List.range 16).all fun x => chkF (bitL (336 + x) 9) 9) = true := by kernel_rfl
end Go.Proofs.Ytjimphlkhjmaiaa.sw
namespace Go.Proofs.Ytjimphlkhjmaiaa.sw
open Go.GE
set_option linter.unusedVariables false
set_option maxRecDepth 1000000
theorem ck9_352 : ((List.range 16).all fun x => chkF (bitL (352 + x) 9) 9) = true := by kernel_rfl
theorem ck9_368 : ((List.range 16).all fun x => chkF (bitL (368 + x) 9) 9) = true := by kernel_rfl
theorem ck9_384 : ((List.range 16).all fun x => chkF (bitL (384 + x) 9) 9) = true := by kernel_rfl
theorem ck9_400 : ((List.range 16).all fun x => chkF (bitL (400 + x) 9) 9) = true := by kernel_rfl
theorem ck9_416 : ((List.range 16).all fun x => chkF (bitL (416 + x) 9) 9) = true := by kernel_rfl
theorem ck9_432 : ((List.range 16).all fun x => chkF (bitL (432 + x) 9) 9) = true := by kernel_rfl
theorem ck9_448 : ((List.range 16).all fun x => chkF (bitL (448 + x) 9) 9) = true := by kernel_rfl
theorem ck9_464 : ((List.range 16).all fun x => chkF (bitL (464 + x) 9) 9) = true := by kernel_rfl
theorem ck9_480 : ((List.range 16).all fun x => chkF (bitL (480 + x) 9) 9) = true := by kernel_rfl
theorem ck9_496 : ((List.range 16).all fun x => chkF (bitL (496 + x) 9) 9) = true := by kernel_rfl
end Go.Proofs.Ytjimphlkhjmaiaa.sw
namespace Go.Proofs.Ytjimphlkhjmaiaa.sw
open Go.GE
set_option linter.unusedVariables false
set_option linter.unusedSimpArgs false
set_option linter.unusedSectionVars false
set_option maxRecDepth 100000
set_option maxHeartbeats 2000000
attribute [local simp] runOps_nil runOps_cons runOpsF_nil runOpsF_cons fstS_some fstF_some opStep_eq want_none oStep_true oStep_false fin_pure fin_read fin_alloc fin_write storeB wrN cellV addWr o_move o_assign o_pick o_alloc o_box o_load o_store o_nilCheck o_bin o_un o_extract o_callV o_callB o_callI callV_f callV_y callV_fc o_makeFunc partsA Instr.fill builtin_len builtin_max2 bin_add bin_sub bin_mul bin_quo bin_rem bin_lss bin_leq bin_gtr bin_geq bin_eql bin_neq un_neg un_not bin_shr bin_shl wrap_u64_id opd opds optAll putO nbeq nblt constOk isC ops sub cl cr co bodyOf thenS_normal thenS_ret thenS_exit thenS_goto afterN_normal afterN_ret afterN_exit afterN_goto condS_true condS_false blockS_normal blockS_ret blockS_exit blockS_goto headS normS normK_eq fixS_nil fixS_cons fix1 fixV emptyB keepO_nil keepO_cons roundC_normal roundC_exit roundC_ret roundC_goto sweep_eq sweepD rnm pickR pickW rootsB ptrT renT ptrFn renFn ptrB_flat ptrB_non renB_flat renB_non plainS_some drawS_some fpsOk disj unord range' dropTo enumT undef wrap_i64_id Value.cells mkCells ptrTo scal cellsAt rdN endS_ret resultsA Option.bind_some tupV finish reachN dep ptrL_eq ptrL renL_eq renL ptrV_bool ptrV_int ptrV_string ptrV_nilFunc ptrV_nilIface ptrV_nilPtr ptrV_ptr ptrV_nilSl ptrV_sl ptrV_iface ptrV_agg ptrV_tuple ptrV_func renV_bool renV_int renV_string renV_nilFunc renV_nilIface renV_nilPtr renV_ptr renV_nilSl renV_sl renV_iface renV_agg renV_tuple renV_func gotoS_goto gotoS_normal gotoS_exit gotoS_ret skip_seq sliceE bnd bndHi intOf optOpd keepT_nil keepT_cons keepC_t keepC_f lk_nil lk_cons lkC_t lkC_f has_nil has_cons hasC_t hasC_f rep_nil rep_cons repC_t repC_f put_eq putC_t putC_f mem_nil mem_cons memC_t memC_f idx_nil idx_cons idxC_t idxC_f reach_nil reachP_cons reachQ_t reachQ_f ptrB_dead renB_dead ins_eq
attribute [local simp] n6_1s n6_3s n6_5s n6_8s n6_11s n6_12s n6_10s n6_13s n6_9s n6_7s n6_16s n6_19s n6_20s n6_18s n6_21s n6_17s n6_15s n6_23s n6_26s n6_31s n6_33s n6_34s n6_32s n6_30s n6_38s n6_40s n6_43s n6_48s n6_50s n6_51s n6_49s n6_47s n6_55s n6_58s n6_59s n6_57s n6_60s n6_56s n6_54s n6_53s n6_61s n6_52s n6_46s n6_45s n6_45g n6_44s n6_42s n6_63s n6_66s n6_70s n6_73s n6_74s n6_72s n6_78s n6_79s n6_77s n6_76s n6_80s n6_75s n6_71s n6_69s n6_68s n6_68g n6_67s n6_65s n6_82s n6_85s n6_87s n6_90s n6_91s n6_89s n6_92s n6_88s n6_86s n6_84s n6_93s n6_83s n6_81s n6_64s n6_62s n6_41s n6_39s n6_37s n6_36s n6_94s n6_35s n6_29s n6_28s n6_28g n6_27s n6_25s n6_97s n6_100s n6_101s n6_99s n6_102s n6_98s n6_96s n6_104s n6_107s n6_111s n6_114s n6_115s n6_113s n6_118s n6_119s n6_117s n6_116s n6_112s n6_110s n6_109s n6_109g n6_108s n6_106s n6_121s n6_124s n6_129s n6_131s n6_132s n6_130s n6_128s n6_136s n6_138s n6_139s n6_137s n6_135s n6_134s n6_140s n6_133s n6_127s n6_126s n6_126g n6_125s n6_123s n6_142s n6_143s n6_141s n6_122s n6_120s n6_105s n6_103s n6_95s n6_24s n6_22s n6_14s n6_6s n6_4s n6_2s n6_0s Try.f6
theorem chk_all (B n : Nat) (n1 : 1 ≤ n) (n9 : n ≤ 9) : chkF (bitL B n) n = true := by
  rw [bit_mod]
  have hx : B % 2 ^ n < 2 ^ n := Nat.mod_lt _ (Nat.pow_pos (by decide))
  generalize B % 2 ^ n = x at *
  have step : ∀ (m a c : Nat), a ≤ x → x < a + c → ((List.range c).all fun y => chkF (bitL (a + y) m) m) = true → chkF (bitL x m) m = true := by
    intro m a c h1 h2 h
    have := List.all_eq_true.1 h (x - a) (List.mem_range.2 (by omega))
    rwa [show a + (x - a) = x by omega] at this
  by_cases h9 : n = 9
  · subst h9
    by_cases x0 : x < 16
    · exact step 9 0 16 (by omega) (by omega) ck9_0
    by_cases x1 : x < 32
    · exact step 9 16 16 (by omega) (by omega) ck9_16
    by_cases x2 : x < 48
    · exact step 9 32 16 (by omega) (by omega) ck9_32
    by_cases x3 : x < 64
    · exact step 9 48 16 (by omega) (by omega) ck9_48
    by_cases x4 : x < 80
    · exact step 9 64 16 (by omega) (by omega) ck9_64
    by_cases x5 : x < 96
    · exact step 9 80 16 (by omega) (by omega) ck9_80
    by_cases x6 : x < 112
    · exact step 9 96 16 (by omega) (by omega) ck9_96
    by_cases x7 : x < 128
    · exact step 9 112 16 (by omega) (by omega) ck9_112
    by_cases x8 : x < 144
    · exact step 9 128 16 (by omega) (by omega) ck9_128
    by_cases x9 : x < 160
    · exact step 9 144 16 (by omega) (by omega) ck9_144
    by_cases x10 : x < 176
    · exact step 9 160 16 (by omega) (by omega) ck9_160
    by_cases x11 : x < 192
    · exact step 9 176 16 (by omega) (by omega) ck9_176
    by_cases x12 : x < 208
    · exact step 9 192 16 (by omega) (by omega) ck9_192
    by_cases x13 : x < 224
    · exact step 9 208 16 (by omega) (by omega) ck9_208
    by_cases x14 : x < 240
    · exact step 9 224 16 (by omega) (by omega) ck9_224
    by_cases x15 : x < 256
    · exact step 9 240 16 (by omega) (by omega) ck9_240
    by_cases x16 : x < 272
    · exact step 9 256 16 (by omega) (by omega) ck9_256
    by_cases x17 : x < 288
    · exact step 9 272 16 (by omega) (by omega) ck9_272
    by_cases x18 : x < 304
    · exact step 9 288 16 (by omega) (by omega) ck9_288
    by_cases x19 : x < 320
    · exact step 9 304 16 (by omega) (by omega) ck9_304
    by_cases x20 : x < 336
    · exact step 9 320 16 (by omega) (by omega) ck9_320
    by_cases x21 : x < 352
    · exact step 9 336 16 (by omega) (by omega) ck9_336
    by_cases x22 : x < 368
    · exact step 9 352 16 (by omega) (by omega) ck9_352
    by_cases x23 : x < 384
    · exact step 9 368 16 (by omega) (by omega) ck9_368
    by_cases x24 : x < 400
    · exact step 9 384 16 (by omega) (by omega) ck9_384
    by_cases x25 : x < 416
    · exact step 9 400 16 (by omega) (by omega) ck9_400
    by_cases x26 : x < 432
    · exact step 9 416 16 (by omega) (by omega) ck9_416
    by_cases x27 : x < 448
    · exact step 9 432 16 (by omega) (by omega) ck9_432
    by_cases x28 : x < 464
    · exact step 9 448 16 (by omega) (by omega) ck9_448
    by_cases x29 : x < 480
    · exact step 9 464 16 (by omega) (by omega) ck9_464
    by_cases x30 : x < 496
    · exact step 9 480 16 (by omega) (by omega) ck9_480
    by_cases x31 : x < 512
    · exact step 9 496 16 (by omega) (by omega) ck9_496
    omega
  · by_cases h8 : n = 8
    · subst h8
      by_cases x0 : x < 64
      · exact step 8 0 64 (by omega) (by omega) ck8_0
      by_cases x1 : x < 128
      · exact step 8 64 64 (by omega) (by omega) ck8_64
      by_cases x2 : x < 192
      · exact step 8 128 64 (by omega) (by omega) ck8_128
      by_cases x3 : x < 256
      · exact step 8 192 64 (by omega) (by omega) ck8_192
      omega
    · have h1 := List.all_eq_true.1 all7 (n - 1) (List.mem_range.2 (by omega))
      rw [show n - 1 + 1 = n by omega] at h1
      exact List.all_eq_true.1 h1 x (List.mem_range.2 hx)
theorem c6 (B C : Nat) (hB : B < 2 ^ 64) (hC : C < 256) : LL.run 6 [lpV B C] [] = some ⟨.bool true, [], []⟩ := by
  have c1 := fun h => k33z B C hB hC h
  obtain ⟨n, hn0⟩ : ∃ n, C % 10 = n := ⟨_, rfl⟩
  have n9 : n ≤ 9 := by omega
  rw [hn0] at c1
  obtain ⟨l, hl⟩ : ∃ l, bitL B n = l := ⟨_, rfl⟩
  have hn : l.length = n := by rw [← hl, bitL_len]
  have a2 := fun h => @lenA_st h (markU l)
  rw [mark_len, hn] at a2
  have c17 := fun h => k17 l n hn (by omega) h
  refine L_run rfl ?_
  rw [run6 _ _ _ (by simp)]
  by_cases hz : n = 0
  · subst hz
    have : l = [] := List.eq_nil_of_length_eq_zero hn
    subst this
    rw [hl] at c1
    rw [show dvO [] 0 0 [] = [] from rfl] at c17
    simp only [List.length_nil, Int.natCast_zero] at c17 a2
    simp (maxSteps := 1000000) (disch := first | omega | decide | assumption | simp [scal]) [loadA_eq ia_46, lenA_sl lk_26, o_indexAddrS es_26, ze_26, o_buildSlice es_26 ze_26 (by decide) ba_26_1, ap_26, builtin_append ni_26, loadA_eq ia_9, want_some q6_8g2, want_some q6_19g3, want_some q6_55g4, want_some q6_79g1, want_some q6_79g5, want_some q6_79g8, want_some q6_97g2, want_some q6_142g8, want_some q6_142g17, c1, c17, a2, k14]
  · have hc := chk_all B n (by omega) n9
    rw [hl] at hc c1
    clear hl hn0
    obtain ⟨hu, h2, h3, h4, h5, h6⟩ := chk_ok hn hc
    have lc := l6c l n hn (by omega) n9 (dvO l n 0 []) _ rfl (by omega) hu (2 ^ (n - 1)) 0 0 (by omega) (by omega)
    rw [h2] at lc
    clear h2 hu hc
    have ld := l6d l n hn (by omega) n9 (rowsV (dvO l n 0 [])) (dvO l n 0 []).length n 0 l (by omega)
    obtain ⟨le, hb⟩ := l6e l n hn (by omega) n9 (rowsV (dvO l n 0 [])) (dvO l n 0 []).length (lstF l n 0 l) n 1 0 (by omega) (by omega) (by omega)
    simp only [Int.natCast_zero, Int.natCast_one, Int.cast_ofNat_Int] at lc ld le
    generalize dvO l n 0 [] = fac at *
    obtain ⟨m, hm⟩ : ∃ m, fac.length = m := ⟨_, rfl⟩
    simp only [hm] at *
    obtain ⟨mm, hmm⟩ : ∃ mm, m - 1 = mm := ⟨_, rfl⟩
    rw [hmm] at h5
    obtain ⟨g3, g1, g2⟩ := rows_at h5
    obtain ⟨g6, g4, g5⟩ := rows_at h6
    have e1 : ¬ (n : Int) < (m : Int) := by omega
    have e2 : ¬ n < m := by omega
    have e3 : ¬ (n : Int) = 0 := by omega
    have e4 : ¬ (m : Int) = 0 := by omega
    have e5 : ¬ m = 0 := by omega
    have w1 : IntKind.i64.wrap ((m : Int) - 1) = (mm : Int) := by rw [wrap_i64_id (by omega) (by omega)]; omega
    have f0 : (0 : Int) ≤ (mm : Int) := by omega
    have f1 : mm < m := by omega
    have f2 : 0 < m := by omega
    have s1 : ∀ h, sliceB h ⟨(markU l).toArray⟩ none (some (iv (lngF l n 1 0))) = pureR h (rwV (l.take (lngF l n 1 0))) := by
      intro h
      have h1 : ((lngF l n 1 0 : Nat) : Int) ≤ (l.length : Int) := by omega
      have h2 : lngF l n 1 0 ≤ l.length := by omega
      simp [sliceB, bnd, intOf, st_size, mark_len, ext_st, mark_drop, mark_take, h1, h2]
    have d1 := fun c => @bin_eqls 9 c (markU (lstF l n 0 l)) (markU (lstF l n 0 l))
    have d2 := fun c => @bin_eqls 9 c (markU (l.take (lngF l n 1 0))) (markU (l.take (lngF l n 1 0)))
    simp only [decide_true] at d1 d2
    clear h3 h4 h5 h6 hb hmm
    unfold rwB at *
    generalize rowsV fac = R at *
    generalize l.take (lngF l n 1 0) = lt at *
    generalize lngF l n 1 0 = lg at *
    generalize lstF l n 0 l = ls at *
    unfold rwV st at *
    generalize (⟨(markU l).toArray⟩ : ByteArray) = s at *
    generalize (⟨(markU lt).toArray⟩ : ByteArray) = slt at *
    generalize (⟨(markU ls).toArray⟩ : ByteArray) = sls at *
    simp (maxSteps := 1000000) (disch := first | omega | decide | assumption | simp [scal]) [loadA_eq ia_46, lenA_sl lk_26, o_indexAddrS es_26, ze_26, o_buildSlice es_26 ze_26 (by decide) ba_26_1, ap_26, builtin_append ni_26, loadA_eq ia_9, want_some q6_8g2, want_some q6_19g3, want_some q6_55g4, want_some q6_79g1, want_some q6_79g5, want_some q6_79g8, want_some q6_97g2, want_some q6_142g8, want_some q6_142g17, siter_ptr, siter_ren, o_rangeT, c1, c17, a2, k14, e1, e2, e3, hz, e4, e5, lc, ld, le, w1, f0, f1, f2, g1, g2, g3, g4, g5, g6, o_sliceT, s1, d1, d2]
end Go.Proofs.Ytjimphlkhjmaiaa.sw
