/-
  Contracts of functions of the program at the limit evaluator. No condition.
-/
import Derived.Test.YtjimphlkhjmaiaaSCN
import Derived.Lib.Strings
import Derived.Test.YtjimphlkhjmaiaaE40
namespace Go.Proofs.Ytjimphlkhjmaiaa.sw
open Go.GE
set_option linter.unusedVariables false
set_option linter.unusedSimpArgs false
set_option linter.unusedSectionVars false
set_option maxRecDepth 100000
set_option maxHeartbeats 4000000
theorem k14 (h : List Blk) : callH LL 14 [] h = some ⟨.bool true, h, [], []⟩ := callH_plain (L_tab rfl) rfl rfl
abbrev uv (n : Nat) : Value := .int .u8 (n : Int)
abbrev sl (b off n c : Nat) : Value := .slice (some ⟨b, off, none⟩) n c
theorem wrap_nn {a : Nat} (h : a < 2 ^ 63) : IntKind.i64.wrap (a : Int) = a := wrap_i64_id (by omega) (by omega)
end Go.Proofs.Ytjimphlkhjmaiaa.sw
namespace Go.Proofs.Ytjimphlkhjmaiaa.sw
open Go.GE
set_option linter.unusedVariables false
set_option linter.unusedSimpArgs false
set_option linter.unusedSectionVars false
set_option maxRecDepth 100000
set_option maxHeartbeats 4000000
abbrev st (l : List UInt8) : Value := .string ⟨l.toArray⟩
theorem bytes_mk (l : List UInt8) : (⟨l.toArray⟩ : ByteArray).toList = l := by rw [Lib.toList_data]
theorem st_size (l : List UInt8) : (⟨l.toArray⟩ : ByteArray).size = l.length := rfl
theorem bin_adds {t : TypeId} {c : Bool} {a b : List UInt8} (h : a.length + b.length ≤ 9223372036854775807) : binA Try.prog .add t c (st a) (st b) = some (st (a ++ b)) := by
  have : ¬ (((a.length + b.length : Nat) : Int) > IntKind.i64.max) := by
    rw [show IntKind.i64.max = (2 ^ 63 : Int) - 1 from rfl]; omega
  simp only [binA, Op.stringOp, st_size, if_neg this, pureOf, pure]
  congr 2
section
open Go.ChangeShapes Go.WideShapes Go.RowKit
variable {H : Type} {enc : TypeId × Value → H} {W : World} {base b0 : Nat} {v : Value} {d : DataW H} {p : List MemPlace}
theorem open_u8 (hv : Value.okWide Try.prog W .any b0 5 v) (hd : DataW.Trod enc Try.prog W base (fun _ => true) true 5 v d p) : ∃ n : Nat, v = uv n ∧ n < 256 := by
  obtain ⟨y, rfl, _, _, h⟩ := open_int (show Try.prog.underlying 5 = some (.int .u8) from by kernel_rfl) hv hd
  obtain ⟨n, rfl, hn⟩ := nat_of (b := 255) (u8_wf h)
  exact ⟨n, rfl, hn⟩
end
end Go.Proofs.Ytjimphlkhjmaiaa.sw
namespace Go.Proofs.Ytjimphlkhjmaiaa.sw
open Go.GE
set_option linter.unusedVariables false
set_option linter.unusedSimpArgs false
set_option linter.unusedSectionVars false
set_option maxRecDepth 100000
set_option maxHeartbeats 4000000
theorem u9 : Try.prog.underlying 9 = some .string := by kernel_rfl
theorem u5 : Try.prog.underlying 5 = some (.int .u8) := by kernel_rfl
theorem u51 : Try.prog.underlying 51 = some (.slice 5) := by kernel_rfl
theorem ext_st {l : List UInt8} {a b : Nat} : (⟨l.toArray⟩ : ByteArray).extract a b = ⟨((l.drop a).take (b - a)).toArray⟩ := by rw [Lib.extract_eq]
def sliceB (h : List Blk) (s : ByteArray) (lo hi : Option Value) : Option OR :=
  match bnd hi s.size s.size with
  | some hh => match bnd lo hh 0 with
    | some ll => pureR h (.string (s.extract ll hh))
    | none => none
  | none => none
section
variable {σ : Tm} {h : List Blk} {d : Option Nat} {ty : TypeId} {pos : String} {af : Array Edge} {g : Option (Nat × Bool)} {x y z : Operand} {lo hi : Option Operand}
theorem o_sliceT : aop Try.prog LL σ h ⟨d, .slice 9 x lo hi none, ty, pos, af, g⟩ = (match opd σ x, optOpd σ lo, optOpd σ hi with
    | some (.string s), some lo, some hi => sliceB h s lo hi
    | _, _, _ => none) := by
  simp only [aop, u9, show optOpd σ none = some none from rfl]
  rcases opd σ x with _ | v
  · rfl
  cases v with
  | string s =>
    rcases optOpd σ lo with _ | lo'
    · rfl
    rcases optOpd σ hi with _ | hi'
    · rfl
    rfl
  | slice a l c =>
    rcases a with _ | ⟨b, o, _ | _⟩ <;> rcases optOpd σ lo with _ | lo' <;> rcases optOpd σ hi with _ | hi' <;> first | rfl | (cases l <;> cases c <;> rfl)
  | _ => rfl
/-- bytes turned into a string -/
def conS (h : List Blk) (b o n : Nat) : Option OR := match n with
  | 0 => pureR h (.string .empty)
  | _ => match cellsC h b with
    | some cs => match rdN cs o n with
      | some l => (bytesOf l).map fun bs => ⟨.string ⟨bs.toArray⟩, h, [b], []⟩
      | none => none
    | none => none
theorem o_conT : aop Try.prog LL σ h ⟨d, .convert 51 9 x, ty, pos, af, g⟩ = (match opd σ x with
    | some (.slice none 0 0) => pureR h (.string .empty)
    | some (.slice (some ⟨b, o, none⟩) n _) => conS h b o n
    | _ => none) := by
  simp only [aop, u9, u51, u5]
  rcases opd σ x with _ | v
  · rfl
  cases v with
  | slice a l c =>
    rcases a with _ | ⟨b, o, _ | _⟩
    · cases l <;> cases c <;> rfl
    · cases l <;> rfl
    · rfl
  | _ => rfl
end
theorem min_st {h : List Blk} {ts : List TypeId} {a b : List UInt8} : builtinA Try.prog h .min ts [st a, st b] = pureR h (st (if (Op.bytesLess a b || decide (a = b)) = true then a else b)) := by
  have : pureOf (Op.stringOp .leq ⟨a.toArray⟩ ⟨b.toArray⟩) = some (.bool (Op.bytesLess a b || decide (a = b))) := by
    simp only [Op.stringOp, bytes_mk, pureOf, pure]
    by_cases h : a = b <;> simp [h]
  cases ts <;> simp only [builtinA, minA, this] <;> (by_cases h : (Op.bytesLess a b || decide (a = b)) = true <;> simp [h])
theorem bin_and1i {P : Program} {t : TypeId} {c : Bool} {w : Nat} (h : w < 2 ^ 63) : binA P .and t c (.int .i64 (w : Int)) (.int .i64 1) = some (.int .i64 ((w % 2 : Nat) : Int)) := by
  have e : (BitVec.ofInt 64 (w : Int) &&& BitVec.ofInt 64 1).toNat = w % 2 := by
    rw [BitVec.ofInt_natCast]
    rw [show BitVec.ofInt 64 1 = BitVec.ofNat 64 1 from rfl, BitVec.toNat_and, BitVec.toNat_ofNat, BitVec.toNat_ofNat, Nat.mod_eq_of_lt (by omega), Nat.mod_eq_of_lt (by decide : 1 < 2 ^ 64), Nat.and_one_is_mod]
  have e' : IntKind.i64.wrap ((BitVec.ofInt 64 (w : Int) &&& BitVec.ofInt 64 1).toNat : Int) = ((w % 2 : Nat) : Int) := by rw [e]; exact wrap_nn (by omega)
  show some (Value.int .i64 (IntKind.i64.wrap ((BitVec.ofInt 64 (w : Int) &&& BitVec.ofInt 64 1).toNat : Int))) = _
  rw [e']
theorem fdiv_powi {w i : Nat} (hi : i < 64) : ((w : Int).fdiv (2 ^ min i IntKind.i64.bits)) = ((w / 2 ^ i : Nat) : Int) := by
  rw [show min i IntKind.i64.bits = i from Nat.min_eq_left (Nat.le_of_lt hi), Int.fdiv_eq_ediv_of_nonneg _ (by exact_mod_cast Nat.zero_le _)]
  simp
theorem shl_powi {J : Nat} (hJ : J < 63) : IntKind.i64.wrap (2 ^ min J IntKind.i64.bits) = ((2 ^ J : Nat) : Int) := by
  rw [show min J IntKind.i64.bits = J from Nat.min_eq_left (by have : IntKind.i64.bits = 64 := rfl; omega), show ((2 : Int) ^ J) = ((2 ^ J : Nat) : Int) by simp]
  exact wrap_nn (Nat.pow_lt_pow_right (by decide) hJ)
end Go.Proofs.Ytjimphlkhjmaiaa.sw
namespace Go.Proofs.Ytjimphlkhjmaiaa.sw
open Go.GE
set_option linter.unusedVariables false
set_option linter.unusedSimpArgs false
set_option linter.unusedSectionVars false
set_option maxRecDepth 100000
set_option maxHeartbeats 4000000
attribute [local simp] runOps_nil runOps_cons runOpsF_nil runOpsF_cons fstS_some fstF_some opStep_eq want_none oStep_true oStep_false fin_pure fin_read fin_alloc fin_write storeB wrN cellV addWr o_move o_assign o_pick o_alloc o_box o_load o_store o_nilCheck o_bin o_un o_extract o_callV o_callB o_callI callV_f callV_y callV_fc o_makeFunc partsA Instr.fill builtin_len builtin_max2 bin_add bin_sub bin_mul bin_quo bin_rem bin_lss bin_leq bin_gtr bin_geq bin_eql bin_neq un_neg un_not bin_shr bin_shl wrap_u64_id opd opds optAll putO nbeq nblt constOk isC ops sub cl cr co bodyOf thenS_normal thenS_ret thenS_exit thenS_goto afterN_normal afterN_ret afterN_exit afterN_goto condS_true condS_false blockS_normal blockS_ret blockS_exit blockS_goto headS normS normK_eq fixS_nil fixS_cons fix1 fixV emptyB keepO_nil keepO_cons roundC_normal roundC_exit roundC_ret roundC_goto sweep_eq sweepD rnm pickR pickW rootsB ptrT renT ptrFn renFn ptrB_flat ptrB_non renB_flat renB_non plainS_some drawS_some fpsOk disj unord range' dropTo enumT undef wrap_i64_id Value.cells mkCells ptrTo scal cellsAt rdN endS_ret resultsA Option.bind_some tupV finish reachN dep ptrL_eq ptrL renL_eq renL ptrV_bool ptrV_int ptrV_string ptrV_nilFunc ptrV_nilIface ptrV_nilPtr ptrV_ptr ptrV_nilSl ptrV_sl ptrV_iface ptrV_agg ptrV_tuple ptrV_func renV_bool renV_int renV_string renV_nilFunc renV_nilIface renV_nilPtr renV_ptr renV_nilSl renV_sl renV_iface renV_agg renV_tuple renV_func gotoS_goto gotoS_normal gotoS_exit gotoS_ret skip_seq sliceE bnd bndHi intOf optOpd keepT_nil keepT_cons keepC_t keepC_f lk_nil lk_cons lkC_t lkC_f has_nil has_cons hasC_t hasC_f rep_nil rep_cons repC_t repC_f put_eq putC_t putC_f mem_nil mem_cons memC_t memC_f idx_nil idx_cons idxC_t idxC_f reach_nil reachP_cons reachQ_t reachQ_f ptrB_dead renB_dead ins_eq
attribute [local simp] n35_1s n35_3s n35_4s n35_2s n35_0s Try.f35
def bitU (b : Bool) : UInt8 := cond b 49 48
def markU (l : List Bool) : List UInt8 := l.map bitU
theorem bitU_inj {a b : Bool} (h : bitU a = bitU b) : a = b := by cases a <;> cases b <;> first | rfl | (exact absurd h (by decide))
theorem markU_inj {a b : List Bool} (h : markU a = markU b) : a = b := by
  induction a generalizing b with
  | nil => cases b with
    | nil => rfl
    | cons => simp [markU] at h
  | cons x a ih => cases b with
    | nil => simp [markU] at h
    | cons y b =>
      simp only [markU, List.map_cons, List.cons.injEq] at h
      rw [bitU_inj h.1, ih h.2]
def lessB : List Bool → List Bool → Bool
  | _, [] => false
  | [], _ :: _ => true
  | a :: x, b :: y => cond a (cond b (lessB x y) false) (cond b true (lessB x y))
theorem less_mark : ∀ {a b : List Bool}, Op.bytesLess (markU a) (markU b) = lessB a b := by
  intro a
  induction a with
  | nil => intro b; cases b <;> rfl
  | cons x a ih =>
    intro b
    cases b with
    | nil => rfl
    | cons y b =>
      simp only [markU, List.map_cons, Op.bytesLess, lessB]
      have := ih (b := b)
      simp only [markU] at this
      cases x <;> cases y <;> simp [bitU, this]
theorem mark_len {l : List Bool} : (markU l).length = l.length := by simp [markU]
theorem mark_app {a b : List Bool} : markU (a ++ b) = markU a ++ markU b := by simp [markU]
theorem mark_drop {l : List Bool} {t : Nat} : (markU l).drop t = markU (l.drop t) := by simp [markU, List.map_drop]
theorem mark_take {l : List Bool} {t : Nat} : (markU l).take t = markU (l.take t) := by simp [markU, List.map_take]
abbrev rwV (l : List Bool) : Value := st (markU l)
/-- the turn of a rim -/
def turnB (l : List Bool) (t : Nat) : List Bool := l.drop t ++ l.take t
theorem k35 (l : List Bool) (t : Nat) (ht : t ≤ l.length) (hl : l.length < 2 ^ 40) (h : List Blk) : callH LL 35 [rwV l, iv t] h = some ⟨rwV (turnB l t), h, [], []⟩ := by
  refine callH_none rfl (fun _ => rfl) (L_run rfl ?_) fun _ => rfl
  have h1 : (t : Int) ≤ (l.length : Int) := by omega
  have h2 : (markU (l.drop t)).length + (markU (l.take t)).length ≤ 9223372036854775807 := by rw [mark_len, mark_len]; simp; omega
  have hd : List.take (l.length - t) (l.drop t) = l.drop t := List.take_of_length_le (by simp)
  have e : rwV (turnB l t) = st (markU (l.drop t) ++ markU (l.take t)) := by unfold rwV turnB; rw [mark_app]
  rw [e, run35 _ _ _ (by simp)]
  simp (maxSteps := 1000000) (disch := first | omega | decide | assumption | simp [scal]) [o_sliceT, sliceB, st_size, mark_len, ext_st, mark_drop, mark_take, hd, @bin_adds _ _ _ _ h2, h1, ht]
end Go.Proofs.Ytjimphlkhjmaiaa.sw
namespace Go.Proofs.Ytjimphlkhjmaiaa.sw
open Go.GE
set_option linter.unusedVariables false
set_option linter.unusedSimpArgs false
set_option linter.unusedSectionVars false
set_option maxRecDepth 100000
set_option maxHeartbeats 4000000
def markV (l : List Bool) : List Value := l.map fun b => uv (cond b 49 48)
/-- the first marks, and zeros behind them -/
def fillV (l : List Bool) (k : Nat) : List Value := markV l ++ List.replicate k (uv 0)
theorem markV_len {l : List Bool} : (markV l).length = l.length := by simp [markV]
theorem fillV_len {l : List Bool} {k : Nat} : (fillV l k).length = l.length + k := by simp [fillV, markV_len]
theorem fillV_set {l : List Bool} {k : Nat} {b : Bool} {v : Value} (hv : v = uv (cond b 49 48)) : (fillV l (k + 1)).set l.length v = fillV (l ++ [b]) k := by
  subst hv
  unfold fillV
  rw [List.set_append_right _ _ (by rw [markV_len]; exact Nat.le_refl _), markV_len, Nat.sub_self, List.replicate_succ, List.set_cons_zero]
  simp [markV]
theorem markV_bytes : ∀ {l : List Bool}, bytesOf (markV l) = some (markU l) := by
  intro l
  induction l with
  | nil => rfl
  | cons b l ih =>
    show (bytesOf (markV l)).map (UInt8.ofNat ((cond b 49 48 : Nat) : Int).toNat :: ·) = some (markU (b :: l))
    rw [ih]
    cases b <;> rfl
theorem conS_mark {h : List Blk} {b n e : Nat} {l : List Bool} {fl ow : Bool} (hb : h[b]? = some (.cells (markV l) e fl ow)) (hn : l.length = n) (h1 : 1 ≤ n) : conS h b 0 n = some ⟨rwV l, h, [b], []⟩ := by
  obtain ⟨m, rfl⟩ : ∃ m, n = m + 1 := ⟨n - 1, by omega⟩
  have hr := rdN_all (markV l) (m + 1) 0 (by rw [markV_len]; omega)
  rw [List.drop_zero] at hr
  simp only [conS, cellsC, hb, hr, markV_bytes, Option.map_some]
/-- the marks of a number, the lowest ones first -/
def bitL (x n : Nat) : List Bool := (List.range n).map fun k => decide (x / 2 ^ k % 2 = 1)
theorem bitL_len {x n : Nat} : (bitL x n).length = n := by simp [bitL]
theorem bitL_succ {x n : Nat} : bitL x (n + 1) = bitL x n ++ [decide (x / 2 ^ n % 2 = 1)] := by simp [bitL, List.range_succ]
theorem mk51 {σ : Tm} {h : List Blk} {d : Option Nat} {ty : TypeId} {pos : String} {af : Array Edge} {g : Option (Nat × Bool)} {x y : Operand} : aop Try.prog LL σ h ⟨d, .makeSlice 51 x y, ty, pos, af, g⟩ = (match opd σ x, opd σ y with
    | some (.int _ n), some (.int _ k) => if 0 ≤ n ∧ n ≤ k ∧ k * 1 ≤ 70368744177664 ∧ k ≤ 70368744177664 then allocR h (.cells (List.replicate k.toNat (uv 0)) 1 true true) fun b => .slice (some ⟨b, 0, none⟩) n.toNat k.toNat else none
    | _, _ => none) := by
  have e1 : Try.prog.underlying 51 = some (.slice 5) := by kernel_rfl
  have e2 : (Try.prog.info? 5).map (fun i => (i.bytes, i.size)) = some (1, 1) := by kernel_rfl
  have e3 : zeroA Try.prog 5 = some (uv 0) := by kernel_rfl
  obtain ⟨i, hi, hp⟩ := Option.map_eq_some_iff.1 e2
  obtain ⟨h8, h1⟩ := Prod.mk.inj hp
  have hfl : ∀ k : Nat, (List.replicate k [uv 0]).flatten = List.replicate k (uv 0) := fun k => List.flatten_replicate_singleton
  simp only [aop, e1, e2, e3, hi, h8, h1]
  cases opd σ x with
  | none => rfl
  | some v =>
    cases v <;> try rfl
    cases opd σ y with
    | none => rfl
    | some w =>
      cases w <;> try rfl
      rename_i k1 n k2 m
      simp only [e3, hi, h8, h1]
      by_cases hc : 0 ≤ n ∧ n ≤ m ∧ m * 1 ≤ 70368744177664 ∧ m ≤ 70368744177664
      · rw [if_pos hc, if_pos ⟨hc.1, hc.2.1, by have := hc.2.2.1; omega, by have := hc.2.2.2; omega, by decide, rfl⟩]
        show allocR h (.cells ((List.replicate m.toNat [uv 0]).flatten) 1 true true) _ = _
        rw [hfl]
      · rw [if_neg hc, if_neg (fun h => hc ⟨h.1, h.2.1, by have := h.2.2.1; omega, by have := h.2.2.2.1; omega⟩)]
def mapS (es : List (List Bool)) : List (Value × Value) := es.map fun l => (rwV l, .bool true)
abbrev mapB (es : List (List Bool)) : Blk := .map (mapS es)
def insS (es : List (List Bool)) (l : List Bool) : List (List Bool) := if l ∈ es then es else es ++ [l]
theorem same_rw {a b : List Bool} : sameK (rwV a) (rwV b) = some (decide (a = b)) := by
  show some ((⟨(markU a).toArray⟩ : ByteArray) == ⟨(markU b).toArray⟩) = _
  rw [beq_toListBytes, bytes_mk, bytes_mk]
  by_cases h : a = b
  · subst h; simp
  · have : ¬ markU a = markU b := fun e => h (markU_inj e)
    simp [h, this]
theorem find_rw {l : List Bool} : ∀ {es : List (List Bool)} {i : Nat}, (l ∈ es ∧ ∃ j, findA (rwV l) (mapS es) i = some (some (i + j, .bool true)) ∧ es[j]? = some l) ∨ (l ∉ es ∧ findA (rwV l) (mapS es) i = some none) := by
  intro es
  induction es with
  | nil => intro i; exact .inr ⟨by simp, rfl⟩
  | cons a es ih =>
    intro i
    simp only [mapS, List.map_cons, findA, same_rw]
    by_cases h : l = a
    · subst h
      left
      refine ⟨by simp, 0, by simp, rfl⟩
    · simp only [h, decide_false]
      rcases ih (i := i + 1) with ⟨h1, j, h2, h3⟩ | ⟨h1, h2⟩
      · left
        refine ⟨by simp [h1], j + 1, ?_, by simpa using h3⟩
        simp only [mapS] at h2
        rw [h2, show i + 1 + j = i + (j + 1) by omega]
      · right
        refine ⟨by simp [h, h1], ?_⟩
        simpa only [mapS] using h2
def updX (P : Program) (t : TypeId) (h : List Blk) (m k v : Option Value) : Option OR := match m, k, v with
    | some m, some k, some v => updA P h t m k v
    | _, _, _ => none
theorem o_mapU {σ : Tm} {h : List Blk} {d : Option Nat} {ty : TypeId} {pos : String} {af : Array Edge} {g : Option (Nat × Bool)} {t : TypeId} {x y z : Operand} : aop Try.prog LL σ h ⟨d, .mapUpdate t x y z, ty, pos, af, g⟩ = updX Try.prog t h (opd σ x) (opd σ y) (opd σ z) := rfl
theorem o_makeMap {σ : Tm} {h : List Blk} {d : Option Nat} {ty : TypeId} {pos : String} {af : Array Edge} {g : Option (Nat × Bool)} {t : TypeId} : aop Try.prog LL σ h ⟨d, .makeMap t none, ty, pos, af, g⟩ = allocR h (.map []) fun b => .map (some b) := rfl
theorem upd80 {h : List Blk} {b : Nat} {es : List (List Bool)} {l : List Bool} (hb : h[b]? = some (mapB es)) : updX Try.prog 80 h (some (.map (some b))) (some (rwV l)) (some (.bool true)) = some ⟨undef, h.set b (mapB (insS es l)), [b], [b]⟩ := by
  have e1 : Try.prog.underlying 80 = some (.map 9 4) := by kernel_rfl
  simp only [updX, updA, e1, u9, mapAt, hb, keyKind, cond_true]
  rcases find_rw (l := l) (es := es) (i := 0) with ⟨h1, j, h2, h3⟩ | ⟨h1, h2⟩
  · simp only [h2, insS, if_pos h1, Nat.zero_add]
    have : (mapS es).set j (rwV l, .bool true) = mapS es := by
      apply List.ext_getElem?
      intro i
      by_cases e : j = i
      · subst e
        have hlt : j < (mapS es).length := by
          have := (List.getElem?_eq_some_iff.1 h3).1
          simpa [mapS] using this
        rw [List.getElem?_set_self hlt]
        simp [mapS, h3]
      · rw [List.getElem?_set_ne e]
    rw [this]
  · simp only [h2, insS, if_neg h1]
    rw [show mapS es ++ [(rwV l, Value.bool true)] = mapS (es ++ [l]) by simp [mapS]]
theorem lenA_map {h : List Blk} {b : Nat} {es : List (List Bool)} (hb : h[b]? = some (mapB es)) : lenA Try.prog h 80 (.map (some b)) = some (iv es.length, [b]) := by
  have e1 : Try.prog.underlying 80 = some (.map 9 4) := by kernel_rfl
  simp only [lenA, e1, mapAt, hb, Option.map_some]
  simp [mapS, goInt]
end Go.Proofs.Ytjimphlkhjmaiaa.sw
namespace Go.Proofs.Ytjimphlkhjmaiaa.sw
open Go.GE
set_option linter.unusedVariables false
set_option linter.unusedSimpArgs false
set_option linter.unusedSectionVars false
set_option maxRecDepth 100000
set_option maxHeartbeats 4000000
attribute [local simp] runOps_nil runOps_cons runOpsF_nil runOpsF_cons fstS_some fstF_some opStep_eq want_none oStep_true oStep_false fin_pure fin_read fin_alloc fin_write storeB wrN cellV addWr o_move o_assign o_pick o_alloc o_box o_load o_store o_nilCheck o_bin o_un o_extract o_callV o_callB o_callI callV_f callV_y callV_fc o_makeFunc partsA Instr.fill builtin_len builtin_max2 bin_add bin_sub bin_mul bin_quo bin_rem bin_lss bin_leq bin_gtr bin_geq bin_eql bin_neq un_neg un_not bin_shr bin_shl wrap_u64_id opd opds optAll putO nbeq nblt constOk isC ops sub cl cr co bodyOf thenS_normal thenS_ret thenS_exit thenS_goto afterN_normal afterN_ret afterN_exit afterN_goto condS_true condS_false blockS_normal blockS_ret blockS_exit blockS_goto headS normS normK_eq fixS_nil fixS_cons fix1 fixV emptyB keepO_nil keepO_cons roundC_normal roundC_exit roundC_ret roundC_goto sweep_eq sweepD rnm pickR pickW rootsB ptrT renT ptrFn renFn ptrB_flat ptrB_non renB_flat renB_non plainS_some drawS_some fpsOk disj unord range' dropTo enumT undef wrap_i64_id Value.cells mkCells ptrTo scal cellsAt rdN endS_ret resultsA Option.bind_some tupV finish reachN dep ptrL_eq ptrL renL_eq renL ptrV_bool ptrV_int ptrV_string ptrV_nilFunc ptrV_nilIface ptrV_nilPtr ptrV_ptr ptrV_nilSl ptrV_sl ptrV_iface ptrV_agg ptrV_tuple ptrV_func renV_bool renV_int renV_string renV_nilFunc renV_nilIface renV_nilPtr renV_ptr renV_nilSl renV_sl renV_iface renV_agg renV_tuple renV_func gotoS_goto gotoS_normal gotoS_exit gotoS_ret skip_seq sliceE bnd bndHi intOf optOpd keepT_nil keepT_cons keepC_t keepC_f lk_nil lk_cons lkC_t lkC_f has_nil has_cons hasC_t hasC_f rep_nil rep_cons repC_t repC_f put_eq putC_t putC_f mem_nil mem_cons memC_t memC_f idx_nil idx_cons idxC_t idxC_f reach_nil reachP_cons reachQ_t reachQ_f ptrB_dead renB_dead ins_eq
attribute [local simp] n38_1s n38_3s n38_6s n38_11s n38_13s n38_14s n38_12s n38_10s n38_18s n38_21s n38_25s n38_28s n38_29s n38_27s n38_33s n38_34s n38_32s n38_31s n38_35s n38_30s n38_26s n38_24s n38_23s n38_23g n38_22s n38_20s n38_37s n38_40s n38_45s n38_47s n38_48s n38_46s n38_44s n38_51s n38_50s n38_52s n38_49s n38_43s n38_42s n38_42g n38_41s n38_39s n38_53s n38_38s n38_36s n38_19s n38_17s n38_16s n38_54s n38_15s n38_9s n38_8s n38_8g n38_7s n38_5s n38_56s n38_57s n38_55s n38_4s n38_2s n38_0s Try.f38
theorem ptrV_map {d b : Nat} : ptrV (d + 1) (.map (some b)) = [b] := rfl
theorem renV_map {f : Nat → Option Nat} {d b : Nat} : renV f (d + 1) (.map (some b)) = (f b).map fun b' => .map (some b') := rfl
theorem map_ptr {es : List (List Bool)} : ptrB (.map (mapS es)) = [] := by
  simp only [ptrB, mapS]
  induction es with
  | nil => rfl
  | cons a es ih => simp only [List.map_cons, List.flatMap_cons, ih]; rfl
theorem map_ren {f : Nat → Option Nat} {es : List (List Bool)} : renB f (.map (mapS es)) = some (.map (mapS es)) := by
  have : renP f (mapS es) = some (mapS es) := by
    simp only [mapS]
    induction es with
    | nil => rfl
    | cons a es ih => simp only [List.map_cons, renP, ih]; rfl
  simp only [renB, this, Option.map_some]
def minR (a b : List Bool) : List Bool := if (lessB a b || decide (a = b)) = true then a else b
theorem min_rw {h : List Blk} {ts : List TypeId} {a b : List Bool} : builtinA Try.prog h .min ts [rwV a, rwV b] = pureR h (rwV (minR a b)) := by
  have e : (markU a = markU b) = (a = b) := propext ⟨markU_inj, fun h => by rw [h]⟩
  rw [show rwV a = st (markU a) from rfl, show rwV b = st (markU b) from rfl, min_st, less_mark]
  simp only [e, minR]
  by_cases h : (lessB a b || decide (a = b)) = true
  · rw [if_pos h, if_pos h]
  · rw [if_neg h, if_neg h]
/-- the smallest one of a row and some turns -/
def lstT (o : List Bool) : Nat → Nat → List Bool → List Bool
  | 0, _, a => a
  | q + 1, t, a => lstT o q (t + 1) (minR a (turnB o t))
section
variable (n : Nat) (n1 : 1 ≤ n) (n9 : n ≤ 9) (x : Nat) (hx : x < 2 ^ 62) (es : List (List Bool))
include n1 n9 hx
theorem l38b : ∀ (q i : Nat), i + q = n →
    lpB Try.prog LL ⟨38, 50, 0, none⟩ n38_23 n38_24 ⟨[(5, sl 0 0 n n), (19, iv n), (20, iv i), (0, iv n), (3, .map (some 1)), (4, iv x)], [.cells (fillV (bitL x i) q) 1 true true, .map (mapS es)], []⟩ =
      some (.exit 2, ⟨[(5, sl 0 0 n n), (0, iv n), (3, .map (some 1)), (4, iv x)], [.cells (markV (bitL x n)) 1 true true, .map (mapS es)], []⟩) := by
  have p1 := @map_ptr es
  have p2 := fun f => @map_ren f es
  generalize mapS es = E at *
  intro q
  induction q with
  | zero =>
    intro i hi
    obtain rfl : i = n := by omega
    have : fillV (bitL x i) 0 = markV (bitL x i) := by simp [fillV]
    rw [this]
    generalize markV (bitL x i) = F
    rw [lpB_eq]
    simp (maxSteps := 1000000) (disch := first | omega | decide | assumption | simp [scal]) [lenA_sl lk_51, o_convI cv_3_5, o_indexAddrS es_51, sz_5, ptrV_map, renV_map, p1, p2]
  | succ q ih =>
    intro i hi
    have e1 : i < n := by omega
    have e2 : (i : Int) < n := by omega
    have this := ih (i + 1) (by omega)
    simp only [cast1] at this
    have f1 := @fdiv_powi x i (by omega)
    have hy : x / 2 ^ i < 2 ^ 63 := Nat.lt_of_le_of_lt (Nat.div_le_self _ _) (by omega)
    have hset : ∀ v, v = uv (cond (decide (x / 2 ^ i % 2 = 1)) 49 48) → (fillV (bitL x i) (q + 1)).set i v = fillV (bitL x (i + 1)) q := fun v hv => by
      have := @fillV_set (bitL x i) q _ v hv
      rw [bitL_len, ← bitL_succ] at this
      exact this
    have hlen : (fillV (bitL x i) (q + 1)).length = n := by rw [fillV_len, bitL_len]; omega
    generalize x / 2 ^ i = y at *
    have f2 := fun c => @bin_and1i Try.prog 3 c y hy
    obtain ⟨r, hr⟩ : ∃ r, y % 2 = r := ⟨_, rfl⟩
    have r2 : r ≤ 1 := by omega
    rw [hr] at hset f2
    have w1 : IntKind.i64.wrap (48 + (r : Int)) = 48 + (r : Int) := wrap_i64_id (by omega) (by omega)
    have w2 : IntKind.u8.wrap (48 + (r : Int)) = 48 + (r : Int) := by simp [IntKind.wrap, IntKind.bits, IntKind.signed]; omega
    have hset := hset (.int .u8 (48 + (r : Int))) (by
      have : r = 0 ∨ r = 1 := by omega
      rcases this with rfl | rfl <;> rfl)
    generalize fillV (bitL x i) (q + 1) = F at *
    generalize fillV (bitL x (i + 1)) q = F' at *
    have e3 : i < F.length := by omega
    clear ih
    rw [lpB_eq]
    simp (maxSteps := 1000000) (disch := first | omega | decide | assumption | simp [scal]) [lenA_sl lk_51, o_convI cv_3_5, o_indexAddrS es_51, sz_5, ptrV_map, renV_map, p1, p2, e1, e2, e3, f1, f2, w1, w2, hset, this]
theorem l38c : ∀ (q t : Nat) (a : List Bool), t + q = n → 1 ≤ t → a.length = n →
    lpB Try.prog LL ⟨38, 50, 0, none⟩ n38_42 n38_43 ⟨[(5, sl 0 0 n n), (7, rwV a), (8, iv t), (0, iv n), (3, .map (some 1)), (4, iv x)], [.cells (markV (bitL x n)) 1 true true, .map (mapS es)], []⟩ =
      some (.exit 4, ⟨[(7, rwV (lstT (bitL x n) q t a)), (0, iv n), (3, .map (some 0)), (4, iv x)], [.map (mapS es)], []⟩) := by
  have p1 := @map_ptr es
  have p2 := fun f => @map_ren f es
  have ol : (bitL x n).length = n := bitL_len
  have c1 := fun (b : Blk) => @conS_mark [.cells (markV (bitL x n)) 1 true true, b] 0 n 1 (bitL x n) true true rfl ol n1
  generalize mapS es = E at *
  generalize bitL x n = o at *
  intro q
  induction q with
  | zero =>
    intro t a ht h1 ha
    obtain rfl : t = n := by omega
    simp only [lstT]
    generalize markV o = F
    rw [lpB_eq]
    simp (maxSteps := 1000000) (disch := first | omega | decide | assumption | simp [scal]) [lenA_sl lk_51, o_convI cv_3_5, o_indexAddrS es_51, sz_5, ptrV_map, renV_map, p1, p2]
  | succ q ih =>
    intro t a ht h1 ha
    have e1 : t < n := by omega
    have e2 : (t : Int) < n := by omega
    have hm : (minR a (turnB o t)).length = n := by
      unfold minR
      split
      · exact ha
      · simp [turnB]; omega
    have this := ih (t + 1) (minR a (turnB o t)) (by omega) (by omega) hm
    have c2 := fun h => k35 o t (by omega) (by omega) h
    have c3 := fun h ts => @min_rw h ts a (turnB o t)
    simp only [cast1] at this
    simp only [lstT]
    generalize lstT o q (t + 1) (minR a (turnB o t)) = R at *
    generalize minR a (turnB o t) = A at *
    generalize turnB o t = B at *
    generalize markV o = F at *
    clear ih
    rw [lpB_eq]
    simp (maxSteps := 1000000) (disch := first | omega | decide | assumption | simp [scal]) [lenA_sl lk_51, o_convI cv_3_5, o_indexAddrS es_51, sz_5, ptrV_map, renV_map, p1, p2, e1, e2, o_conT, c1, c2, c3, this]
end
end Go.Proofs.Ytjimphlkhjmaiaa.sw
namespace Go.Proofs.Ytjimphlkhjmaiaa.sw
open Go.GE
set_option linter.unusedVariables false
set_option linter.unusedSimpArgs false
set_option linter.unusedSectionVars false
set_option maxRecDepth 100000
set_option maxHeartbeats 4000000
attribute [local simp] runOps_nil runOps_cons runOpsF_nil runOpsF_cons fstS_some fstF_some opStep_eq want_none oStep_true oStep_false fin_pure fin_read fin_alloc fin_write storeB wrN cellV addWr o_move o_assign o_pick o_alloc o_box o_load o_store o_nilCheck o_bin o_un o_extract o_callV o_callB o_callI callV_f callV_y callV_fc o_makeFunc partsA Instr.fill builtin_len builtin_max2 bin_add bin_sub bin_mul bin_quo bin_rem bin_lss bin_leq bin_gtr bin_geq bin_eql bin_neq un_neg un_not bin_shr bin_shl wrap_u64_id opd opds optAll putO nbeq nblt constOk isC ops sub cl cr co bodyOf thenS_normal thenS_ret thenS_exit thenS_goto afterN_normal afterN_ret afterN_exit afterN_goto condS_true condS_false blockS_normal blockS_ret blockS_exit blockS_goto headS normS normK_eq fixS_nil fixS_cons fix1 fixV emptyB keepO_nil keepO_cons roundC_normal roundC_exit roundC_ret roundC_goto sweep_eq sweepD rnm pickR pickW rootsB ptrT renT ptrFn renFn ptrB_flat ptrB_non renB_flat renB_non plainS_some drawS_some fpsOk disj unord range' dropTo enumT undef wrap_i64_id Value.cells mkCells ptrTo scal cellsAt rdN endS_ret resultsA Option.bind_some tupV finish reachN dep ptrL_eq ptrL renL_eq renL ptrV_bool ptrV_int ptrV_string ptrV_nilFunc ptrV_nilIface ptrV_nilPtr ptrV_ptr ptrV_nilSl ptrV_sl ptrV_iface ptrV_agg ptrV_tuple ptrV_func renV_bool renV_int renV_string renV_nilFunc renV_nilIface renV_nilPtr renV_ptr renV_nilSl renV_sl renV_iface renV_agg renV_tuple renV_func gotoS_goto gotoS_normal gotoS_exit gotoS_ret skip_seq sliceE bnd bndHi intOf optOpd keepT_nil keepT_cons keepC_t keepC_f lk_nil lk_cons lkC_t lkC_f has_nil has_cons hasC_t hasC_f rep_nil rep_cons repC_t repC_f put_eq putC_t putC_f mem_nil mem_cons memC_t memC_f idx_nil idx_cons idxC_t idxC_f reach_nil reachP_cons reachQ_t reachQ_f ptrB_dead renB_dead ins_eq
attribute [local simp] n38_1s n38_3s n38_6s n38_11s n38_13s n38_14s n38_12s n38_10s n38_18s n38_21s n38_25s n38_28s n38_29s n38_27s n38_33s n38_34s n38_32s n38_31s n38_35s n38_30s n38_26s n38_24s n38_23s n38_23g n38_22s n38_20s n38_37s n38_40s n38_45s n38_47s n38_48s n38_46s n38_44s n38_51s n38_50s n38_52s n38_49s n38_43s n38_42s n38_42g n38_41s n38_39s n38_53s n38_38s n38_36s n38_19s n38_17s n38_16s n38_54s n38_15s n38_9s n38_8s n38_8g n38_7s n38_5s n38_56s n38_57s n38_55s n38_4s n38_2s n38_0s Try.f38
/-- the smallest turns of rows, each once -/
def allS (n : Nat) : Nat → Nat → List (List Bool) → List (List Bool)
  | 0, _, es => es
  | q + 1, x, es => allS n q (x + 1) (insS es (lstT (bitL x n) (n - 1) 1 (bitL x n)))
section
variable (n : Nat) (n1 : 1 ≤ n) (n9 : n ≤ 9)
include n1 n9
theorem l38a : ∀ (q x : Nat) (es : List (List Bool)), x + q = 2 ^ n →
    lpB Try.prog LL ⟨38, 50, 0, none⟩ n38_8 n38_9 ⟨[(0, iv n), (3, .map (some 0)), (4, iv x)], [.map (mapS es)], []⟩ = some (.exit 0, ⟨[(3, .map (some 0))], [.map (mapS (allS n q x es))], []⟩) := by
  have s1 := @shl_powi n (by omega)
  have hN : 2 ^ n ≤ 2 ^ 9 := Nat.pow_le_pow_right (by decide) n9
  intro q
  induction q with
  | zero =>
    intro x es hx
    have e1 : ¬ (x : Int) < ((2 ^ n : Nat) : Int) := by omega
    have p1 := @map_ptr es
    have p2 := fun f => @map_ren f es
    simp only [allS]
    generalize mapS es = E at *
    generalize ((2 ^ n : Nat) : Int) = N at *
    rw [lpB_eq]
    simp (maxSteps := 1000000) (disch := first | omega | decide | assumption | simp [scal]) [lenA_sl lk_51, o_convI cv_3_5, o_indexAddrS es_51, sz_5, ptrV_map, renV_map, p1, p2, s1, e1]
  | succ q ih =>
    intro x es hx
    have e1 : (x : Int) < ((2 ^ n : Nat) : Int) := by omega
    have this := ih (x + 1) (insS es (lstT (bitL x n) (n - 1) 1 (bitL x n))) (by omega)
    have b1 := l38b n n1 n9 x (by omega) es n 0 (by omega)
    have b2 := l38c n n1 n9 x (by omega) es (n - 1) 1 (bitL x n) (by omega) (by omega) bitL_len
    have b3 : List.replicate n (uv 0) = fillV (bitL x 0) n := by simp [fillV, markV, bitL]
    have c1 := fun (b : Blk) => @conS_mark [.cells (markV (bitL x n)) 1 true true, b] 0 n 1 (bitL x n) true true rfl bitL_len n1
    have u1 := @upd80 [.map (mapS es)] 0 es (lstT (bitL x n) (n - 1) 1 (bitL x n)) rfl
    have p1 := @map_ptr es
    have p2 := fun f => @map_ren f es
    have p3 := @map_ptr (insS es (lstT (bitL x n) (n - 1) 1 (bitL x n)))
    have p4 := fun f => @map_ren f (insS es (lstT (bitL x n) (n - 1) 1 (bitL x n)))
    have q1 : (n : Int) * 1 ≤ 70368744177664 := by omega
    have q2 : (n : Int) ≤ 70368744177664 := by omega
    simp only [allS]
    simp only [cast1, Int.natCast_zero] at this b1
    simp only [Int.natCast_one] at b2
    simp only [mapB, List.set_cons_zero] at u1
    clear ih
    generalize mapS (allS n q (x + 1) (insS es (lstT (bitL x n) (n - 1) 1 (bitL x n)))) = EE at *
    generalize mapS (insS es (lstT (bitL x n) (n - 1) 1 (bitL x n))) = E' at *
    generalize mapS es = E at *
    generalize lstT (bitL x n) (n - 1) 1 (bitL x n) = R at *
    generalize fillV (bitL x 0) n = F0 at *
    generalize markV (bitL x n) = F at *
    generalize bitL x n = o at *
    generalize ((2 ^ n : Nat) : Int) = N at *
    rw [lpB_eq]
    simp (maxSteps := 1000000) (disch := first | omega | decide | assumption | simp [scal]) [lenA_sl lk_51, o_convI cv_3_5, o_indexAddrS es_51, sz_5, ptrV_map, renV_map, p1, p2, p3, p4, s1, e1, mk51, q1, q2, b1, b2, b3, o_conT, c1, o_mapU, u1, this]
theorem k38 (h : List Blk) : callH LL 38 [iv n] h = some ⟨iv (allS n (2 ^ n) 0 []).length, h, [], []⟩ := by
  refine callH_none rfl (fun _ => rfl) (L_run rfl ?_) fun _ => rfl
  have lp := l38a n n1 n9 (2 ^ n) 0 [] (by omega)
  have p1 := @map_ptr (allS n (2 ^ n) 0 [])
  have p2 := fun f => @map_ren f (allS n (2 ^ n) 0 [])
  have m0 : mapS [] = [] := rfl
  have p3 := @map_ptr []
  have p4 := fun f => @map_ren f []
  have l1 := @lenA_map [.map (mapS (allS n (2 ^ n) 0 []))] 0 (allS n (2 ^ n) 0 []) rfl
  rw [m0] at lp p3 p4
  simp only [Int.natCast_zero] at lp
  generalize mapS (allS n (2 ^ n) 0 []) = E at *
  generalize (allS n (2 ^ n) 0 []).length = k at *
  rw [run38 _ _ _ (by simp)]
  simp (maxSteps := 1000000) (disch := first | omega | decide | assumption | simp [scal]) [lenA_sl lk_51, o_convI cv_3_5, o_indexAddrS es_51, sz_5, ptrV_map, renV_map, p1, p2, p3, p4, o_makeMap, lp, l1]
end
end Go.Proofs.Ytjimphlkhjmaiaa.sw
namespace Go.Proofs.Ytjimphlkhjmaiaa.sw
open Go.GE
set_option linter.unusedVariables false
set_option linter.unusedSimpArgs false
set_option linter.unusedSectionVars false
set_option maxRecDepth 1000000
set_option maxHeartbeats 4000000
attribute [local simp] runOps_nil runOps_cons runOpsF_nil runOpsF_cons fstS_some fstF_some opStep_eq want_none oStep_true oStep_false fin_pure fin_read fin_alloc fin_write storeB wrN cellV addWr o_move o_assign o_pick o_alloc o_box o_load o_store o_nilCheck o_bin o_un o_extract o_callV o_callB o_callI callV_f callV_y callV_fc o_makeFunc partsA Instr.fill builtin_len builtin_max2 bin_add bin_sub bin_mul bin_quo bin_rem bin_lss bin_leq bin_gtr bin_geq bin_eql bin_neq un_neg un_not bin_shr bin_shl wrap_u64_id opd opds optAll putO nbeq nblt constOk isC ops sub cl cr co bodyOf thenS_normal thenS_ret thenS_exit thenS_goto afterN_normal afterN_ret afterN_exit afterN_goto condS_true condS_false blockS_normal blockS_ret blockS_exit blockS_goto headS normS normK_eq fixS_nil fixS_cons fix1 fixV emptyB keepO_nil keepO_cons roundC_normal roundC_exit roundC_ret roundC_goto sweep_eq sweepD rnm pickR pickW rootsB ptrT renT ptrFn renFn ptrB_flat ptrB_non renB_flat renB_non plainS_some drawS_some fpsOk disj unord range' dropTo enumT undef wrap_i64_id Value.cells mkCells ptrTo scal cellsAt rdN endS_ret resultsA Option.bind_some tupV finish reachN dep ptrL_eq ptrL renL_eq renL ptrV_bool ptrV_int ptrV_string ptrV_nilFunc ptrV_nilIface ptrV_nilPtr ptrV_ptr ptrV_nilSl ptrV_sl ptrV_iface ptrV_agg ptrV_tuple ptrV_func renV_bool renV_int renV_string renV_nilFunc renV_nilIface renV_nilPtr renV_ptr renV_nilSl renV_sl renV_iface renV_agg renV_tuple renV_func gotoS_goto gotoS_normal gotoS_exit gotoS_ret skip_seq sliceE bnd bndHi intOf optOpd keepT_nil keepT_cons keepC_t keepC_f lk_nil lk_cons lkC_t lkC_f has_nil has_cons hasC_t hasC_f rep_nil rep_cons repC_t repC_f put_eq putC_t putC_f mem_nil mem_cons memC_t memC_f idx_nil idx_cons idxC_t idxC_f reach_nil reachP_cons reachQ_t reachQ_f ptrB_dead renB_dead ins_eq
attribute [local simp] n11_1s n11_3s n11_5s n11_7s n11_8s n11_6s n11_4s n11_2s n11_0s Try.f11
theorem k31a (n v : Nat) (h : List Blk) (hr : LL.run 31 [iv n] [] = some ⟨.tuple #[iv v, iv 0], [], []⟩) : callH LL 31 [iv n] h = some ⟨.tuple #[iv v, iv 0], h, [], []⟩ := callH_none rfl (fun _ => rfl) hr fun _ => rfl
theorem alike_n (n : Nat) (n1 : 1 ≤ n) (n9 : n ≤ 9) : ∀ h, callH LL 31 [iv n] h = some ⟨.tuple #[iv (allS n (2 ^ n) 0 []).length, iv 0], h, [], []⟩ := by
  intro h
  match n, n1, n9 with
  | 1, _, _ => rw [show (allS 1 (2 ^ 1) 0 []).length = 2 by kernel_rfl]; exact k31a 1 2 h (L_tab (by kernel_rfl))
  | 2, _, _ => rw [show (allS 2 (2 ^ 2) 0 []).length = 3 by kernel_rfl]; exact k31a 2 3 h (L_tab (by kernel_rfl))
  | 3, _, _ => rw [show (allS 3 (2 ^ 3) 0 []).length = 4 by kernel_rfl]; exact k31a 3 4 h (L_tab (by kernel_rfl))
  | 4, _, _ => rw [show (allS 4 (2 ^ 4) 0 []).length = 6 by kernel_rfl]; exact k31a 4 6 h (L_tab (by kernel_rfl))
  | 5, _, _ => rw [show (allS 5 (2 ^ 5) 0 []).length = 8 by kernel_rfl]; exact k31a 5 8 h (L_tab (by kernel_rfl))
  | 6, _, _ => rw [show (allS 6 (2 ^ 6) 0 []).length = 14 by kernel_rfl]; exact k31a 6 14 h (L_tab (by kernel_rfl))
  | 7, _, _ => rw [show (allS 7 (2 ^ 7) 0 []).length = 20 by kernel_rfl]; exact k31a 7 20 h (L_tab (by kernel_rfl))
  | 8, _, _ => rw [show (allS 8 (2 ^ 8) 0 []).length = 36 by kernel_rfl]; exact k31a 8 36 h (L_tab (by kernel_rfl))
  | 9, _, _ => rw [show (allS 9 (2 ^ 9) 0 []).length = 60 by kernel_rfl]; exact k31a 9 60 h (L_tab (by kernel_rfl))
  | 0, h, _ => omega
  | k + 10, _, h => omega
theorem c11 (n : Nat) (hn : n < 256) : LL.run 11 [uv n] [] = some ⟨.bool true, [], []⟩ := by
  have ht : Int.tmod (n : Int) 9 = ((n % 9 : Nat) : Int) := rfl
  have w1 := wrap_nn (a := n) (by omega)
  obtain ⟨k, hk⟩ : ∃ k, n % 9 + 1 = k := ⟨_, rfl⟩
  have hk1 : 1 ≤ k ∧ k ≤ 9 := by omega
  have w2 : IntKind.i64.wrap (1 + ((n % 9 : Nat) : Int)) = (k : Int) := by rw [wrap_i64_id (by omega) (by omega)]; omega
  have a31 := alike_n k hk1.1 hk1.2
  have a38 := k38 k hk1.1 hk1.2
  generalize n % 9 = r at *
  generalize (allS k (2 ^ k) 0 []).length = z at *
  refine L_run rfl ?_
  rw [run11 _ _ _ (by simp)]
  simp (maxSteps := 1000000) (disch := first | omega | decide | assumption | simp [scal]) [o_convI cv_5_3, want_some q11_7g2, want_some q11_7g8, k14, ht, w1, w2, a31, a38]
end Go.Proofs.Ytjimphlkhjmaiaa.sw
