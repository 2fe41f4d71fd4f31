/-
  Contracts of functions of the program at the limit evaluator. No condition.
-/
import Derived.Test.YtjimphlkhjmaiaaSFN
import Derived.Laws.RangeString
import Derived.Lib.Repeat
import Derived.Lib.Strings
import Derived.Test.YtjimphlkhjmaiaaE40
namespace Go.Proofs.Ytjimphlkhjmaiaa.sw
open Go.GE
set_option linter.unusedVariables false
set_option linter.unusedSimpArgs false
set_option linter.unusedSectionVars false
set_option maxRecDepth 100000
set_option maxHeartbeats 4000000
theorem k14 (h : List Blk) : callH LL 14 [] h = some ⟨.bool true, h, [], []⟩ := callH_plain (L_tab rfl) rfl rfl
abbrev uv (n : Nat) : Value := .int .u8 (n : Int)
abbrev sl (b off n c : Nat) : Value := .slice (some ⟨b, off, none⟩) n c
abbrev pp (b : Nat) : Value := .pointer (some ⟨b, 0, none⟩)
theorem wrap_nn {a : Nat} (h : a < 2 ^ 63) : IntKind.i64.wrap (a : Int) = a := wrap_i64_id (by omega) (by omega)
end Go.Proofs.Ytjimphlkhjmaiaa.sw
namespace Go.Proofs.Ytjimphlkhjmaiaa.sw
open Go.GE
set_option linter.unusedVariables false
set_option linter.unusedSimpArgs false
set_option linter.unusedSectionVars false
set_option maxRecDepth 100000
set_option maxHeartbeats 4000000
abbrev st (l : List UInt8) : Value := .string ⟨l.toArray⟩
theorem bytes_mk (l : List UInt8) : (⟨l.toArray⟩ : ByteArray).toList = l := by rw [Lib.toList_data]
theorem bin_eqls {t : TypeId} {c : Bool} {a b : List UInt8} : binA Try.prog .eql t c (st a) (st b) = some (.bool (decide (a = b))) := by
  simp only [binA, Op.stringOp, bytes_mk, pureOf, pure]
  by_cases h : a = b <;> simp [h]
theorem st_size (l : List UInt8) : (⟨l.toArray⟩ : ByteArray).size = l.length := rfl
section
open Go.ChangeShapes Go.WideShapes Go.RowKit
variable {H : Type} {enc : TypeId × Value → H} {W : World} {base b0 : Nat} {v : Value} {d : DataW H} {p : List MemPlace}
theorem open_u8 (hv : Value.okWide Try.prog W .any b0 5 v) (hd : DataW.Trod enc Try.prog W base (fun _ => true) true 5 v d p) : ∃ n : Nat, v = uv n ∧ n < 256 := by
  obtain ⟨y, rfl, _, _, h⟩ := open_int (show Try.prog.underlying 5 = some (.int .u8) from by kernel_rfl) hv hd
  obtain ⟨n, rfl, hn⟩ := nat_of (b := 255) (u8_wf h)
  exact ⟨n, rfl, hn⟩
end
end Go.Proofs.Ytjimphlkhjmaiaa.sw
namespace Go.Proofs.Ytjimphlkhjmaiaa.sw
open Go.GE
set_option linter.unusedVariables false
set_option linter.unusedSimpArgs false
set_option linter.unusedSectionVars false
set_option maxRecDepth 100000
set_option maxHeartbeats 4000000
theorem u9 : Try.prog.underlying 9 = some .string := by kernel_rfl
theorem u5 : Try.prog.underlying 5 = some (.int .u8) := by kernel_rfl
theorem u51 : Try.prog.underlying 51 = some (.slice 5) := by kernel_rfl
theorem ext_st {l : List UInt8} {a b : Nat} : (⟨l.toArray⟩ : ByteArray).extract a b = ⟨((l.drop a).take (b - a)).toArray⟩ := by rw [Lib.extract_eq]
def sliceB (h : List Blk) (s : ByteArray) (lo hi : Option Value) : Option OR :=
  match bnd hi s.size s.size with
  | some hh => match bnd lo hh 0 with
    | some ll => pureR h (.string (s.extract ll hh))
    | none => none
  | none => none
section
variable {σ : Tm} {h : List Blk} {d : Option Nat} {ty : TypeId} {pos : String} {af : Array Edge} {g : Option (Nat × Bool)} {x y z : Operand} {lo hi : Option Operand}
theorem o_sliceT : aop Try.prog LL σ h ⟨d, .slice 9 x lo hi none, ty, pos, af, g⟩ = (match opd σ x, optOpd σ lo, optOpd σ hi with
    | some (.string s), some lo, some hi => sliceB h s lo hi
    | _, _, _ => none) := by
  simp only [aop, u9, show optOpd σ none = some none from rfl]
  rcases opd σ x with _ | v
  · rfl
  cases v with
  | string s =>
    rcases optOpd σ lo with _ | lo'
    · rfl
    rcases optOpd σ hi with _ | hi'
    · rfl
    rfl
  | slice a l c =>
    rcases a with _ | ⟨b, o, _ | _⟩ <;> rcases optOpd σ lo with _ | lo' <;> rcases optOpd σ hi with _ | hi' <;> first | rfl | (cases l <;> cases c <;> rfl)
  | _ => rfl
/-- bytes turned into a string -/
def conS (h : List Blk) (b o n : Nat) : Option OR := match n with
  | 0 => pureR h (.string .empty)
  | _ => match cellsC h b with
    | some cs => match rdN cs o n with
      | some l => (bytesOf l).map fun bs => ⟨.string ⟨bs.toArray⟩, h, [b], []⟩
      | none => none
    | none => none
theorem o_conT : aop Try.prog LL σ h ⟨d, .convert 51 9 x, ty, pos, af, g⟩ = (match opd σ x with
    | some (.slice none 0 0) => pureR h (.string .empty)
    | some (.slice (some ⟨b, o, none⟩) n _) => conS h b o n
    | _ => none) := by
  simp only [aop, u9, u51, u5]
  rcases opd σ x with _ | v
  · rfl
  cases v with
  | slice a l c =>
    rcases a with _ | ⟨b, o, _ | _⟩
    · cases l <;> cases c <;> rfl
    · cases l <;> rfl
    · rfl
  | _ => rfl
theorem o_rangeT : aop Try.prog LL σ h ⟨d, .range 9 x, ty, pos, af, g⟩ = (match opd σ x with
    | some (.string s) => allocR h (.siter s 0) ptrTo
    | _ => none) := by
  simp only [aop, u9]
  rcases opd σ x with _ | v
  · rfl
  cases v <;> rfl
def nextB (h : List Blk) (b : Nat) : Option OR := match h[b]? with
  | some (.siter s p) => if p < s.size then
      some ⟨.tuple #[.bool true, goInt p, .int .i32 (Utf8.decode s p).1], h.set b (.siter s (p + (Utf8.decode s p).2)), [b], [b]⟩
    else some ⟨.tuple #[.bool false], h, [b], []⟩
  | _ => none
theorem o_nextT : aop Try.prog LL σ h ⟨d, .next x true, ty, pos, af, g⟩ = (match opd σ x with
    | some (.pointer (some ⟨b, 0, none⟩)) => nextB h b
    | _ => none) := rfl
theorem lenA_st {l : List UInt8} : lenA Try.prog h 9 (st l) = some (iv l.length, []) := by
  simp only [lenA, u9]; rfl
end
theorem shl_powi {J : Nat} (hJ : J < 63) : IntKind.i64.wrap (2 ^ min J IntKind.i64.bits) = ((2 ^ J : Nat) : Int) := by
  rw [show min J IntKind.i64.bits = J from Nat.min_eq_left (by have : IntKind.i64.bits = 64 := rfl; omega), show ((2 : Int) ^ J) = ((2 ^ J : Nat) : Int) by simp]
  exact wrap_nn (Nat.pow_lt_pow_right (by decide) hJ)
end Go.Proofs.Ytjimphlkhjmaiaa.sw
namespace Go.Proofs.Ytjimphlkhjmaiaa.sw
open Go.GE
set_option linter.unusedVariables false
set_option linter.unusedSimpArgs false
set_option linter.unusedSectionVars false
set_option maxRecDepth 100000
set_option maxHeartbeats 4000000
def bitU (b : Bool) : UInt8 := cond b 49 48
def markU (l : List Bool) : List UInt8 := l.map bitU
theorem bitU_inj {a b : Bool} (h : bitU a = bitU b) : a = b := by cases a <;> cases b <;> first | rfl | (exact absurd h (by decide))
theorem markU_inj {a b : List Bool} (h : markU a = markU b) : a = b := by
  induction a generalizing b with
  | nil => cases b with
    | nil => rfl
    | cons => simp [markU] at h
  | cons x a ih => cases b with
    | nil => simp [markU] at h
    | cons y b =>
      simp only [markU, List.map_cons, List.cons.injEq] at h
      rw [bitU_inj h.1, ih h.2]
theorem mark_len {l : List Bool} : (markU l).length = l.length := by simp [markU]
theorem mark_app {a b : List Bool} : markU (a ++ b) = markU a ++ markU b := by simp [markU]
theorem mark_drop {l : List Bool} {t : Nat} : (markU l).drop t = markU (l.drop t) := by simp [markU, List.map_drop]
theorem mark_take {l : List Bool} {t : Nat} : (markU l).take t = markU (l.take t) := by simp [markU, List.map_take]
abbrev rwV (l : List Bool) : Value := st (markU l)
end Go.Proofs.Ytjimphlkhjmaiaa.sw
namespace Go.Proofs.Ytjimphlkhjmaiaa.sw
open Go.GE
set_option linter.unusedVariables false
set_option linter.unusedSimpArgs false
set_option linter.unusedSectionVars false
set_option maxRecDepth 100000
set_option maxHeartbeats 4000000
def markV (l : List Bool) : List Value := l.map fun b => uv (cond b 49 48)
/-- the first marks, and zeros behind them -/
def fillV (l : List Bool) (k : Nat) : List Value := markV l ++ List.replicate k (uv 0)
theorem markV_len {l : List Bool} : (markV l).length = l.length := by simp [markV]
theorem fillV_len {l : List Bool} {k : Nat} : (fillV l k).length = l.length + k := by simp [fillV, markV_len]
theorem fillV_set {l : List Bool} {k : Nat} {b : Bool} {v : Value} (hv : v = uv (cond b 49 48)) : (fillV l (k + 1)).set l.length v = fillV (l ++ [b]) k := by
  subst hv
  unfold fillV
  rw [List.set_append_right _ _ (by rw [markV_len]; exact Nat.le_refl _), markV_len, Nat.sub_self, List.replicate_succ, List.set_cons_zero]
  simp [markV]
theorem markV_bytes : ∀ {l : List Bool}, bytesOf (markV l) = some (markU l) := by
  intro l
  induction l with
  | nil => rfl
  | cons b l ih =>
    show (bytesOf (markV l)).map (UInt8.ofNat ((cond b 49 48 : Nat) : Int).toNat :: ·) = some (markU (b :: l))
    rw [ih]
    cases b <;> rfl
theorem conS_mark {h : List Blk} {b n e : Nat} {l : List Bool} {fl ow : Bool} (hb : h[b]? = some (.cells (markV l) e fl ow)) (hn : l.length = n) (h1 : 1 ≤ n) : conS h b 0 n = some ⟨rwV l, h, [b], []⟩ := by
  obtain ⟨m, rfl⟩ : ∃ m, n = m + 1 := ⟨n - 1, by omega⟩
  have hr := rdN_all (markV l) (m + 1) 0 (by rw [markV_len]; omega)
  rw [List.drop_zero] at hr
  simp only [conS, cellsC, hb, hr, markV_bytes, Option.map_some]
/-- the marks of a number, the lowest ones first -/
def bitL (x n : Nat) : List Bool := (List.range n).map fun k => decide (x / 2 ^ k % 2 = 1)
theorem bitL_len {x n : Nat} : (bitL x n).length = n := by simp [bitL]
theorem bitL_succ {x n : Nat} : bitL x (n + 1) = bitL x n ++ [decide (x / 2 ^ n % 2 = 1)] := by simp [bitL, List.range_succ]
theorem mk51 {σ : Tm} {h : List Blk} {d : Option Nat} {ty : TypeId} {pos : String} {af : Array Edge} {g : Option (Nat × Bool)} {x y : Operand} : aop Try.prog LL σ h ⟨d, .makeSlice 51 x y, ty, pos, af, g⟩ = (match opd σ x, opd σ y with
    | some (.int _ n), some (.int _ k) => if 0 ≤ n ∧ n ≤ k ∧ k * 1 ≤ 70368744177664 ∧ k ≤ 70368744177664 then allocR h (.cells (List.replicate k.toNat (uv 0)) 1 true true) fun b => .slice (some ⟨b, 0, none⟩) n.toNat k.toNat else none
    | _, _ => none) := by
  have e1 : Try.prog.underlying 51 = some (.slice 5) := by kernel_rfl
  have e2 : (Try.prog.info? 5).map (fun i => (i.bytes, i.size)) = some (1, 1) := by kernel_rfl
  have e3 : zeroA Try.prog 5 = some (uv 0) := by kernel_rfl
  obtain ⟨i, hi, hp⟩ := Option.map_eq_some_iff.1 e2
  obtain ⟨h8, h1⟩ := Prod.mk.inj hp
  have hfl : ∀ k : Nat, (List.replicate k [uv 0]).flatten = List.replicate k (uv 0) := fun k => List.flatten_replicate_singleton
  simp only [aop, e1, e2, e3, hi, h8, h1]
  cases opd σ x with
  | none => rfl
  | some v =>
    cases v <;> try rfl
    cases opd σ y with
    | none => rfl
    | some w =>
      cases w <;> try rfl
      rename_i k1 n k2 m
      simp only [e3, hi, h8, h1]
      by_cases hc : 0 ≤ n ∧ n ≤ m ∧ m * 1 ≤ 70368744177664 ∧ m ≤ 70368744177664
      · rw [if_pos hc, if_pos ⟨hc.1, hc.2.1, by have := hc.2.2.1; omega, by have := hc.2.2.2; omega, by decide, rfl⟩]
        show allocR h (.cells ((List.replicate m.toNat [uv 0]).flatten) 1 true true) _ = _
        rw [hfl]
      · rw [if_neg hc, if_neg (fun h => hc ⟨h.1, h.2.1, by have := h.2.2.1; omega, by have := h.2.2.2.1; omega⟩)]
def mapS (es : List (List Bool)) : List (Value × Value) := es.map fun l => (rwV l, .bool true)
abbrev mapB (es : List (List Bool)) : Blk := .map (mapS es)
def insS (es : List (List Bool)) (l : List Bool) : List (List Bool) := if l ∈ es then es else es ++ [l]
theorem same_rw {a b : List Bool} : sameK (rwV a) (rwV b) = some (decide (a = b)) := by
  show some ((⟨(markU a).toArray⟩ : ByteArray) == ⟨(markU b).toArray⟩) = _
  rw [beq_toListBytes, bytes_mk, bytes_mk]
  by_cases h : a = b
  · subst h; simp
  · have : ¬ markU a = markU b := fun e => h (markU_inj e)
    simp [h, this]
theorem find_rw {l : List Bool} : ∀ {es : List (List Bool)} {i : Nat}, (l ∈ es ∧ ∃ j, findA (rwV l) (mapS es) i = some (some (i + j, .bool true)) ∧ es[j]? = some l) ∨ (l ∉ es ∧ findA (rwV l) (mapS es) i = some none) := by
  intro es
  induction es with
  | nil => intro i; exact .inr ⟨by simp, rfl⟩
  | cons a es ih =>
    intro i
    simp only [mapS, List.map_cons, findA, same_rw]
    by_cases h : l = a
    · subst h
      left
      refine ⟨by simp, 0, by simp, rfl⟩
    · simp only [h, decide_false]
      rcases ih (i := i + 1) with ⟨h1, j, h2, h3⟩ | ⟨h1, h2⟩
      · left
        refine ⟨by simp [h1], j + 1, ?_, by simpa using h3⟩
        simp only [mapS] at h2
        rw [h2, show i + 1 + j = i + (j + 1) by omega]
      · right
        refine ⟨by simp [h, h1], ?_⟩
        simpa only [mapS] using h2
def updX (P : Program) (t : TypeId) (h : List Blk) (m k v : Option Value) : Option OR := match m, k, v with
    | some m, some k, some v => updA P h t m k v
    | _, _, _ => none
theorem o_mapU {σ : Tm} {h : List Blk} {d : Option Nat} {ty : TypeId} {pos : String} {af : Array Edge} {g : Option (Nat × Bool)} {t : TypeId} {x y z : Operand} : aop Try.prog LL σ h ⟨d, .mapUpdate t x y z, ty, pos, af, g⟩ = updX Try.prog t h (opd σ x) (opd σ y) (opd σ z) := rfl
theorem o_makeMap {σ : Tm} {h : List Blk} {d : Option Nat} {ty : TypeId} {pos : String} {af : Array Edge} {g : Option (Nat × Bool)} {t : TypeId} : aop Try.prog LL σ h ⟨d, .makeMap t none, ty, pos, af, g⟩ = allocR h (.map []) fun b => .map (some b) := rfl
theorem upd80 {h : List Blk} {b : Nat} {es : List (List Bool)} {l : List Bool} (hb : h[b]? = some (mapB es)) : updX Try.prog 80 h (some (.map (some b))) (some (rwV l)) (some (.bool true)) = some ⟨undef, h.set b (mapB (insS es l)), [b], [b]⟩ := by
  have e1 : Try.prog.underlying 80 = some (.map 9 4) := by kernel_rfl
  simp only [updX, updA, e1, u9, mapAt, hb, keyKind, cond_true]
  rcases find_rw (l := l) (es := es) (i := 0) with ⟨h1, j, h2, h3⟩ | ⟨h1, h2⟩
  · simp only [h2, insS, if_pos h1, Nat.zero_add]
    have : (mapS es).set j (rwV l, .bool true) = mapS es := by
      apply List.ext_getElem?
      intro i
      by_cases e : j = i
      · subst e
        have hlt : j < (mapS es).length := by
          have := (List.getElem?_eq_some_iff.1 h3).1
          simpa [mapS] using this
        rw [List.getElem?_set_self hlt]
        simp [mapS, h3]
      · rw [List.getElem?_set_ne e]
    rw [this]
  · simp only [h2, insS, if_neg h1]
    rw [show mapS es ++ [(rwV l, Value.bool true)] = mapS (es ++ [l]) by simp [mapS]]
end Go.Proofs.Ytjimphlkhjmaiaa.sw
namespace Go.Proofs.Ytjimphlkhjmaiaa.sw
open Go.GE
set_option linter.unusedVariables false
set_option linter.unusedSimpArgs false
set_option linter.unusedSectionVars false
set_option maxRecDepth 100000
set_option maxHeartbeats 4000000
theorem ptrV_map {d b : Nat} : ptrV (d + 1) (.map (some b)) = [b] := rfl
theorem renV_map {f : Nat → Option Nat} {d b : Nat} : renV f (d + 1) (.map (some b)) = (f b).map fun b' => .map (some b') := rfl
theorem map_ptr {es : List (List Bool)} : ptrB (.map (mapS es)) = [] := by
  simp only [ptrB, mapS]
  induction es with
  | nil => rfl
  | cons a es ih => simp only [List.map_cons, List.flatMap_cons, ih]; rfl
theorem map_ren {f : Nat → Option Nat} {es : List (List Bool)} : renB f (.map (mapS es)) = some (.map (mapS es)) := by
  have : renP f (mapS es) = some (mapS es) := by
    simp only [mapS]
    induction es with
    | nil => rfl
    | cons a es ih => simp only [List.map_cons, renP, ih]; rfl
  simp only [renB, this, Option.map_some]
end Go.Proofs.Ytjimphlkhjmaiaa.sw
namespace Go.Proofs.Ytjimphlkhjmaiaa.sw
open Go.GE
set_option linter.unusedVariables false
set_option linter.unusedSimpArgs false
set_option linter.unusedSectionVars false
set_option maxRecDepth 100000
set_option maxHeartbeats 4000000
attribute [local simp] runOps_nil runOps_cons runOpsF_nil runOpsF_cons fstS_some fstF_some opStep_eq want_none oStep_true oStep_false fin_pure fin_read fin_alloc fin_write storeB wrN cellV addWr o_move o_assign o_pick o_alloc o_box o_load o_store o_nilCheck o_bin o_un o_extract o_callV o_callB o_callI callV_f callV_y callV_fc o_makeFunc partsA Instr.fill builtin_len builtin_max2 bin_add bin_sub bin_mul bin_quo bin_rem bin_lss bin_leq bin_gtr bin_geq bin_eql bin_neq un_neg un_not bin_shr bin_shl wrap_u64_id opd opds optAll putO nbeq nblt constOk isC ops sub cl cr co bodyOf thenS_normal thenS_ret thenS_exit thenS_goto afterN_normal afterN_ret afterN_exit afterN_goto condS_true condS_false blockS_normal blockS_ret blockS_exit blockS_goto headS normS normK_eq fixS_nil fixS_cons fix1 fixV emptyB keepO_nil keepO_cons roundC_normal roundC_exit roundC_ret roundC_goto sweep_eq sweepD rnm pickR pickW rootsB ptrT renT ptrFn renFn ptrB_flat ptrB_non renB_flat renB_non plainS_some drawS_some fpsOk disj unord range' dropTo enumT undef wrap_i64_id Value.cells mkCells ptrTo scal cellsAt rdN endS_ret resultsA Option.bind_some tupV finish reachN dep ptrL_eq ptrL renL_eq renL ptrV_bool ptrV_int ptrV_string ptrV_nilFunc ptrV_nilIface ptrV_nilPtr ptrV_ptr ptrV_nilSl ptrV_sl ptrV_iface ptrV_agg ptrV_tuple ptrV_func renV_bool renV_int renV_string renV_nilFunc renV_nilIface renV_nilPtr renV_ptr renV_nilSl renV_sl renV_iface renV_agg renV_tuple renV_func gotoS_goto gotoS_normal gotoS_exit gotoS_ret skip_seq sliceE bnd bndHi intOf optOpd keepT_nil keepT_cons keepC_t keepC_f lk_nil lk_cons lkC_t lkC_f has_nil has_cons hasC_t hasC_f rep_nil rep_cons repC_t repC_f put_eq putC_t putC_f mem_nil mem_cons memC_t memC_f idx_nil idx_cons idxC_t idxC_f reach_nil reachP_cons reachQ_t reachQ_f ptrB_dead renB_dead ins_eq
attribute [local simp] n42_1s n42_4s n42_8s n42_11s n42_12s n42_10s n42_15s n42_17s n42_20s n42_21s n42_19s n42_22s n42_18s n42_16s n42_14s n42_13s n42_9s n42_7s n42_6s n42_6g n42_5s n42_3s n42_24s n42_25s n42_23s n42_2s n42_0s Try.f42 n22_1s n22_5s n22_8s n22_9s n22_7s n22_11s n22_14s n22_15s n22_13s n22_17s n22_20s n22_21s n22_19s n22_22s n22_18s n22_16s n22_12s n22_10s n22_6s n22_4s n22_3s n22_24s n22_25s n22_23s n22_2s n22_0s Try.f22
theorem dec_row {l : List Bool} {p : Nat} (hp : p < l.length) : Utf8.decode ⟨(markU l).toArray⟩ p = ((cond (l.getD p false) 49 48 : Nat), 1) := by
  have hs : p < (⟨(markU l).toArray⟩ : ByteArray).size := by rw [st_size, mark_len]; exact hp
  have hv : (⟨(markU l).toArray⟩ : ByteArray)[p]'hs = bitU (l.getD p false) := by
    show (markU l).toArray[p]'_ = _
    simp [markU, hp]
  rw [decode_ascii _ _ hs (by rw [hv]; cases l.getD p false <;> decide), hv]
  cases l.getD p false <;> rfl
theorem next_row {h : List Blk} {b p : Nat} {l : List Bool} (hb : h[b]? = some (.siter ⟨(markU l).toArray⟩ p)) (hp : p < l.length) :
    nextB h b = some ⟨.tuple #[.bool true, iv p, .int .i32 ((cond (l.getD p false) 49 48 : Nat) : Int)], h.set b (.siter ⟨(markU l).toArray⟩ (p + 1)), [b], [b]⟩ := by
  have hs : p < (⟨(markU l).toArray⟩ : ByteArray).size := by rw [st_size, mark_len]; exact hp
  simp only [nextB, hb, if_pos hs, dec_row hp]
  rfl
theorem next_end {h : List Blk} {b p : Nat} {l : List Bool} (hb : h[b]? = some (.siter ⟨(markU l).toArray⟩ p)) (hp : l.length ≤ p) : nextB h b = some ⟨.tuple #[.bool false], h, [b], []⟩ := by
  have hs : ¬ p < (⟨(markU l).toArray⟩ : ByteArray).size := by rw [st_size, mark_len]; omega
  simp only [nextB, hb, if_neg hs]
theorem siter_ptr {s : ByteArray} {p : Nat} : ptrB (.siter s p) = [] := rfl
theorem siter_ren {f : Nat → Option Nat} {s : ByteArray} {p : Nat} : renB f (.siter s p) = some (.siter s p) := rfl
theorem k57 (x : Bool) (h : List Blk) : callH LL 57 [st [48, 49], .int .i32 ((cond x 49 48 : Nat) : Int)] h = some ⟨.bool true, h, [], []⟩ := by
  cases x
  · exact callH_none rfl (fun _ => rfl) (L_tab (by kernel_rfl)) fun _ => rfl
  · exact callH_none rfl (fun _ => rfl) (L_tab (by kernel_rfl)) fun _ => rfl
theorem l42 (l : List Bool) : ∀ (q p : Nat), p + q = l.length →
    lpB Try.prog LL ⟨42, 16, 0, none⟩ n42_6 n42_7 ⟨[(1, st [48, 49]), (8, pp 0)], [.siter ⟨(markU l).toArray⟩ p], []⟩ = some (.exit 0, ⟨[], [], []⟩) := by
  intro q
  induction q with
  | zero =>
    intro p hp
    have n1 := @next_end [.siter ⟨(markU l).toArray⟩ p] 0 p l rfl (by omega)
    generalize (⟨(markU l).toArray⟩ : ByteArray) = s at *
    rw [lpB_eq]
    simp (maxSteps := 1000000) (disch := first | omega | decide | assumption | simp [scal]) [siter_ptr, siter_ren, o_nextT, n1]
  | succ q ih =>
    intro p hp
    have n1 := @next_row [.siter ⟨(markU l).toArray⟩ p] 0 p l rfl (by omega)
    have n2 := fun h => k57 (l.getD p false) h
    have this := ih (p + 1) (by omega)
    simp only [List.set_cons_zero] at n1
    generalize (⟨(markU l).toArray⟩ : ByteArray) = s at *
    generalize ((cond (l.getD p false) 49 48 : Nat) : Int) = r at *
    clear ih
    rw [lpB_eq]
    simp (maxSteps := 1000000) (disch := first | omega | decide | assumption | simp [scal]) [siter_ptr, siter_ren, o_nextT, n1, n2, this]
theorem k42 (l : List Bool) (h : List Blk) : callH LL 42 [rwV l, st [48, 49]] h = some ⟨.bool true, h, [], []⟩ := by
  refine callH_none rfl (fun _ => rfl) (L_run rfl ?_) fun _ => rfl
  have lp := l42 l l.length 0 (by omega)
  rw [run42 _ _ _ (by simp)]
  unfold rwV st
  generalize (⟨(markU l).toArray⟩ : ByteArray) = s at *
  simp (maxSteps := 1000000) (disch := first | omega | decide | assumption | simp [scal]) [siter_ptr, siter_ren, o_rangeT, lp]
theorem k22 (l : List Bool) (h1 : 1 ≤ l.length) (h64 : l.length ≤ 64) (h : List Blk) : callH LL 22 [rwV l] h = some ⟨iv 0, h, [], []⟩ := by
  refine callH_none rfl (fun _ => rfl) (L_run rfl ?_) fun _ => rfl
  have e1 : ¬ markU l = [] := fun e => by have := @mark_len l; rw [e] at this; simp at this; omega
  have e2 : ¬ ((64 : Int) < (l.length : Int)) := by omega
  have e3 : ¬ (64 < l.length) := by omega
  have c1 := fun h => k42 l h
  have c2 := fun h => @lenA_st h (markU l)
  rw [mark_len] at c2
  have c3 := fun c => @bin_eqls 9 c (markU l) []
  rw [run22 _ _ _ (by simp)]
  simp (maxSteps := 1000000) (disch := first | omega | decide | assumption | simp [scal]) [c1, c2, c3, e1, e2, e3]
end Go.Proofs.Ytjimphlkhjmaiaa.sw
namespace Go.Proofs.Ytjimphlkhjmaiaa.sw
open Go.GE
set_option linter.unusedVariables false
set_option linter.unusedSimpArgs false
set_option linter.unusedSectionVars false
set_option maxRecDepth 100000
set_option maxHeartbeats 4000000
attribute [local simp] runOps_nil runOps_cons runOpsF_nil runOpsF_cons fstS_some fstF_some opStep_eq want_none oStep_true oStep_false fin_pure fin_read fin_alloc fin_write storeB wrN cellV addWr o_move o_assign o_pick o_alloc o_box o_load o_store o_nilCheck o_bin o_un o_extract o_callV o_callB o_callI callV_f callV_y callV_fc o_makeFunc partsA Instr.fill builtin_len builtin_max2 bin_add bin_sub bin_mul bin_quo bin_rem bin_lss bin_leq bin_gtr bin_geq bin_eql bin_neq un_neg un_not bin_shr bin_shl wrap_u64_id opd opds optAll putO nbeq nblt constOk isC ops sub cl cr co bodyOf thenS_normal thenS_ret thenS_exit thenS_goto afterN_normal afterN_ret afterN_exit afterN_goto condS_true condS_false blockS_normal blockS_ret blockS_exit blockS_goto headS normS normK_eq fixS_nil fixS_cons fix1 fixV emptyB keepO_nil keepO_cons roundC_normal roundC_exit roundC_ret roundC_goto sweep_eq sweepD rnm pickR pickW rootsB ptrT renT ptrFn renFn ptrB_flat ptrB_non renB_flat renB_non plainS_some drawS_some fpsOk disj unord range' dropTo enumT undef wrap_i64_id Value.cells mkCells ptrTo scal cellsAt rdN endS_ret resultsA Option.bind_some tupV finish reachN dep ptrL_eq ptrL renL_eq renL ptrV_bool ptrV_int ptrV_string ptrV_nilFunc ptrV_nilIface ptrV_nilPtr ptrV_ptr ptrV_nilSl ptrV_sl ptrV_iface ptrV_agg ptrV_tuple ptrV_func renV_bool renV_int renV_string renV_nilFunc renV_nilIface renV_nilPtr renV_ptr renV_nilSl renV_sl renV_iface renV_agg renV_tuple renV_func gotoS_goto gotoS_normal gotoS_exit gotoS_ret skip_seq sliceE bnd bndHi intOf optOpd keepT_nil keepT_cons keepC_t keepC_f lk_nil lk_cons lkC_t lkC_f has_nil has_cons hasC_t hasC_f rep_nil rep_cons repC_t repC_f put_eq putC_t putC_f mem_nil mem_cons memC_t memC_f idx_nil idx_cons idxC_t idxC_f reach_nil reachP_cons reachQ_t reachQ_f ptrB_dead renB_dead ins_eq
attribute [local simp] n40_1s n40_3s n40_4s n40_2s n40_0s Try.f40
def repB (l : List Bool) : Nat → List Bool
  | 0 => []
  | c + 1 => l ++ repB l c
theorem repB_len {l : List Bool} : ∀ c, (repB l c).length = c * l.length := by
  intro c
  induction c with
  | zero => simp [repB]
  | succ c ih => simp [repB, ih, Nat.succ_mul, Nat.add_comm]
theorem repB_mark {l : List Bool} : ∀ c, Lib.repeatL (markU l) c = markU (repB l c) := by
  intro c
  induction c with
  | zero => rfl
  | succ c ih => rw [Lib.repeatL, ih, repB, mark_app]
theorem k56 (l : List Bool) (c : Nat) (hc : c ≤ 2 ^ 20) (hl : l.length ≤ 2 ^ 10) (h : List Blk) : callH LL 56 [rwV l, iv c] h = some ⟨rwV (repB l c), h, [], []⟩ := by
  refine callH_none rfl (fun _ => rfl) (L_tab ?_) fun _ => rfl
  show (if 0 ≤ (c : Int) ∧ (⟨(markU l).toArray⟩ : ByteArray).size * (c : Int).toNat ≤ 2 ^ 40 ∧ (c : Int) ≤ 2 ^ 40 then some (⟨.string ⟨(Lib.repeatL (⟨(markU l).toArray⟩ : ByteArray).data.toList (c : Int).toNat).toArray⟩, [], []⟩ : RR) else none) = _
  have h1 : l.length * c ≤ 2 ^ 10 * 2 ^ 20 := Nat.mul_le_mul hl hc
  rw [if_pos ⟨by omega, by rw [st_size, mark_len]; simp only [Int.toNat_natCast]; omega, by omega⟩]
  simp only [Int.toNat_natCast, repB_mark]
abbrev strB (l : List Bool) : Blk := .cells [rwV l] 1 true true
abbrev intB (n : Nat) : Blk := .cells [iv n] 1 true true
/-- what is seen of some marks from an index on -/
def winB (l : List Bool) (k i : Nat) : List Bool := ((repB l (2 + k / l.length)).drop i).take k
theorem k40 (l : List Bool) (k : Nat) (h : List Blk) : callH LL 40 [rwV l, iv k] h = some ⟨.func (.func 55) #[] #[pp h.length, pp (h.length + 1)], h ++ [strB l, intB k], [], []⟩ := by
  refine callN_none (v := .func (.func 55) #[] #[pp 0, pp 1]) (news := [strB l, intB k]) rfl (fun _ => rfl) (L_run rfl ?_) (fun blk hb => by
    simp only [List.mem_cons, List.not_mem_nil, or_false] at hb
    rcases hb with rfl | rfl <;> exact noIdB_flat) (by simp [renV_func, renFn, renL, renV_ptr, dep, nblt])
  rw [run40 _ _ _ (by simp)]
  simp (maxSteps := 1000000) (disch := first | omega | decide | assumption | simp [scal])
end Go.Proofs.Ytjimphlkhjmaiaa.sw
namespace Go.Proofs.Ytjimphlkhjmaiaa.sw
open Go.GE
set_option linter.unusedVariables false
set_option linter.unusedSimpArgs false
set_option linter.unusedSectionVars false
set_option maxRecDepth 100000
set_option maxHeartbeats 4000000
/-- the row that the windows are cut out of -/
abbrev longB (l : List Bool) (k : Nat) : List Bool := repB l (2 + k / l.length)
theorem long_len {l : List Bool} {k i : Nat} (hi : i < l.length) : i + k ≤ (longB l k).length := by
  rw [repB_len]
  have h1 := Nat.div_add_mod k l.length
  have h2 := Nat.mod_lt k (show 0 < l.length by omega)
  rw [Nat.add_mul, Nat.mul_comm (k / l.length)]
  omega
theorem slice_win {l : List Bool} {k i : Nat} (hi : i < l.length) (h : List Blk) : sliceB h ⟨(markU (longB l k)).toArray⟩ (some (iv i)) (some (iv ((i : Int) + k))) = pureR h (rwV (winB l k i)) := by
  have h1 := @long_len l k i hi
  have e1 : bnd (some (iv ((i : Int) + k))) (⟨(markU (longB l k)).toArray⟩ : ByteArray).size (⟨(markU (longB l k)).toArray⟩ : ByteArray).size = some (i + k) := by
    simp only [bnd, intOf, st_size, mark_len]
    rw [if_pos (by omega)]
    congr 1
  have e2 : bnd (some (iv i)) (i + k) 0 = some i := by
    simp only [bnd, intOf]
    rw [if_pos (by omega)]
    congr 1
  simp only [sliceB, e1, e2, ext_st, mark_drop, mark_take, Nat.add_sub_cancel_left]
  rfl
end Go.Proofs.Ytjimphlkhjmaiaa.sw
namespace Go.Proofs.Ytjimphlkhjmaiaa.sw
open Go.GE
set_option linter.unusedVariables false
set_option linter.unusedSimpArgs false
set_option linter.unusedSectionVars false
set_option maxRecDepth 100000
set_option maxHeartbeats 4000000
attribute [local simp] runOps_nil runOps_cons runOpsF_nil runOpsF_cons fstS_some fstF_some opStep_eq want_none oStep_true oStep_false fin_pure fin_read fin_alloc fin_write storeB wrN cellV addWr o_move o_assign o_pick o_alloc o_box o_load o_store o_nilCheck o_bin o_un o_extract o_callV o_callB o_callI callV_f callV_y callV_fc o_makeFunc partsA Instr.fill builtin_len builtin_max2 bin_add bin_sub bin_mul bin_quo bin_rem bin_lss bin_leq bin_gtr bin_geq bin_eql bin_neq un_neg un_not bin_shr bin_shl wrap_u64_id opd opds optAll putO nbeq nblt constOk isC ops sub cl cr co bodyOf thenS_normal thenS_ret thenS_exit thenS_goto afterN_normal afterN_ret afterN_exit afterN_goto condS_true condS_false blockS_normal blockS_ret blockS_exit blockS_goto headS normS normK_eq fixS_nil fixS_cons fix1 fixV emptyB keepO_nil keepO_cons roundC_normal roundC_exit roundC_ret roundC_goto sweep_eq sweepD rnm pickR pickW rootsB ptrT renT ptrFn renFn ptrB_flat ptrB_non renB_flat renB_non plainS_some drawS_some fpsOk disj unord range' dropTo enumT undef wrap_i64_id Value.cells mkCells ptrTo scal cellsAt rdN endS_ret resultsA Option.bind_some tupV finish reachN dep ptrL_eq ptrL renL_eq renL ptrV_bool ptrV_int ptrV_string ptrV_nilFunc ptrV_nilIface ptrV_nilPtr ptrV_ptr ptrV_nilSl ptrV_sl ptrV_iface ptrV_agg ptrV_tuple ptrV_func renV_bool renV_int renV_string renV_nilFunc renV_nilIface renV_nilPtr renV_ptr renV_nilSl renV_sl renV_iface renV_agg renV_tuple renV_func gotoS_goto gotoS_normal gotoS_exit gotoS_ret skip_seq sliceE bnd bndHi intOf optOpd keepT_nil keepT_cons keepC_t keepC_f lk_nil lk_cons lkC_t lkC_f has_nil has_cons hasC_t hasC_f rep_nil rep_cons repC_t repC_f put_eq putC_t putC_f mem_nil mem_cons memC_t memC_f idx_nil idx_cons idxC_t idxC_f reach_nil reachP_cons reachQ_t reachQ_f ptrB_dead renB_dead ins_eq
attribute [local simp] n33_1s n33_3s n33_5s n33_8s n33_12s n33_15s n33_16s n33_14s n33_20s n33_21s n33_19s n33_18s n33_22s n33_17s n33_13s n33_11s n33_10s n33_10g n33_9s n33_7s n33_24s n33_25s n33_23s n33_6s n33_4s n33_2s n33_0s Try.f33
abbrev lpV (B C : Nat) : Value := .agg #[.int .u64 (B : Int), uv C]
theorem wrap_u64 {a : Nat} (h : a < 2 ^ 64) : IntKind.u64.wrap (a : Int) = a := by
  simp [IntKind.wrap, IntKind.bits, IntKind.signed]; omega
theorem bin_and1u {P : Program} {t : TypeId} {c : Bool} {w : Nat} (h : w < 2 ^ 64) : binA P .and t c (.int .u64 (w : Int)) (.int .u64 1) = some (.int .u64 ((w % 2 : Nat) : Int)) := by
  have e : (BitVec.ofInt 64 (w : Int) &&& BitVec.ofInt 64 1).toNat = w % 2 := by
    rw [BitVec.ofInt_natCast]
    rw [show BitVec.ofInt 64 1 = BitVec.ofNat 64 1 from rfl, BitVec.toNat_and, BitVec.toNat_ofNat, BitVec.toNat_ofNat, Nat.mod_eq_of_lt (by omega), Nat.mod_eq_of_lt (by decide : 1 < 2 ^ 64), Nat.and_one_is_mod]
  have e' : IntKind.u64.wrap ((BitVec.ofInt 64 (w : Int) &&& BitVec.ofInt 64 1).toNat : Int) = ((w % 2 : Nat) : Int) := by rw [e]; exact wrap_u64 (by omega)
  show some (Value.int .u64 (IntKind.u64.wrap ((BitVec.ofInt 64 (w : Int) &&& BitVec.ofInt 64 1).toNat : Int))) = _
  rw [e']
theorem fdiv_powu {w i : Nat} (hi : i < 64) : ((w : Int).fdiv (2 ^ min i IntKind.u64.bits)) = ((w / 2 ^ i : Nat) : Int) := by
  rw [show min i IntKind.u64.bits = i from Nat.min_eq_left (Nat.le_of_lt hi), Int.fdiv_eq_ediv_of_nonneg _ (by exact_mod_cast Nat.zero_le _)]
  simp
theorem l33 (B C n : Nat) (hB : B < 2 ^ 64) (n64 : n ≤ 64) : ∀ (q i : Nat), i + q = n →
    lpB Try.prog LL ⟨33, 41, 0, none⟩ n33_10 n33_11 ⟨[(3, pp 0), (8, sl 1 0 n n), (23, iv n), (24, iv i)], [.cells [.int .u64 (B : Int), uv C] 1 true true, .cells (fillV (bitL B i) q) 1 true true], []⟩ =
      some (.exit 0, ⟨[(8, sl 0 0 n n)], [.cells (markV (bitL B n)) 1 true true], []⟩) := by
  intro q
  induction q with
  | zero =>
    intro i hi
    obtain rfl : i = n := by omega
    have : fillV (bitL B i) 0 = markV (bitL B i) := by simp [fillV]
    rw [this]
    generalize markV (bitL B i) = F
    rw [lpB_eq]
    simp (maxSteps := 1000000) (disch := first | omega | decide | assumption | simp [scal]) [o_fieldAddr fa_46_1 (by decide), loadA_eq ia_5, o_convI cv_5_3, lenA_sl lk_51, o_fieldAddr fa_46_0 (by decide), loadA_eq ia_44, o_convI cv_44_5, o_indexAddrS es_51, sz_5]
  | succ q ih =>
    intro i hi
    have e1 : i < n := by omega
    have e2 : (i : Int) < n := by omega
    have this := ih (i + 1) (by omega)
    simp only [cast1] at this
    have t1 : Int.tmod (i : Int) 64 = (i : Int) := by
      show ((i % 64 : Nat) : Int) = i
      rw [Nat.mod_eq_of_lt (by omega)]
    have f1 := @fdiv_powu B i (by omega)
    have hy : B / 2 ^ i < 2 ^ 64 := Nat.lt_of_le_of_lt (Nat.div_le_self _ _) (by omega)
    have hset : ∀ v, v = uv (cond (decide (B / 2 ^ i % 2 = 1)) 49 48) → (fillV (bitL B i) (q + 1)).set i v = fillV (bitL B (i + 1)) q := fun v hv => by
      have := @fillV_set (bitL B i) q _ v hv
      rw [bitL_len, ← bitL_succ] at this
      exact this
    have hlen : (fillV (bitL B i) (q + 1)).length = n := by rw [fillV_len, bitL_len]; omega
    generalize B / 2 ^ i = y at *
    have f2 := fun c => @bin_and1u Try.prog 44 c y hy
    obtain ⟨r, hr⟩ : ∃ r, y % 2 = r := ⟨_, rfl⟩
    have r2 : r ≤ 1 := by omega
    rw [hr] at hset f2
    have w0 : IntKind.i64.wrap (i : Int) = i := wrap_nn (by omega)
    have w1 : IntKind.u64.wrap (48 + (r : Int)) = 48 + (r : Int) := by simp [IntKind.wrap, IntKind.bits, IntKind.signed]; omega
    have w2 : IntKind.u8.wrap (48 + (r : Int)) = 48 + (r : Int) := by simp [IntKind.wrap, IntKind.bits, IntKind.signed]; omega
    have hset := hset (.int .u8 (48 + (r : Int))) (by
      have : r = 0 ∨ r = 1 := by omega
      rcases this with rfl | rfl <;> rfl)
    generalize fillV (bitL B i) (q + 1) = F at *
    generalize fillV (bitL B (i + 1)) q = F' at *
    have e3 : i < F.length := by omega
    clear ih
    rw [lpB_eq]
    simp (maxSteps := 1000000) (disch := first | omega | decide | assumption | simp [scal]) [o_fieldAddr fa_46_1 (by decide), loadA_eq ia_5, o_convI cv_5_3, lenA_sl lk_51, o_fieldAddr fa_46_0 (by decide), loadA_eq ia_44, o_convI cv_44_5, o_indexAddrS es_51, sz_5, e1, e2, e3, t1, f1, f2, w0, w1, w2, hset, this]
theorem k33 (B C : Nat) (hB : B < 2 ^ 64) (hC : C < 256) (h : List Blk) : callH LL 33 [lpV B C, iv 1, iv 64] h = some ⟨rwV (bitL B (1 + C % 64)), h, [], []⟩ := by
  refine callH_none rfl (fun _ => rfl) (L_run rfl ?_) fun _ => rfl
  have ht : Int.tmod (C : Int) 64 = ((C % 64 : Nat) : Int) := rfl
  have w0 : IntKind.i64.wrap (C : Int) = C := wrap_nn (by omega)
  obtain ⟨n, hn⟩ : ∃ n, 1 + C % 64 = n := ⟨_, rfl⟩
  have w2 : IntKind.i64.wrap (1 + ((C % 64 : Nat) : Int)) = (n : Int) := by rw [wrap_i64_id (by omega) (by omega)]; omega
  have hn1 : 1 ≤ n ∧ n ≤ 64 := by omega
  rw [hn]
  have lp := l33 B C n hB hn1.2 n 0 (by omega)
  have hf : fillV (bitL B 0) n = List.replicate n (uv 0) := by simp [fillV, bitL, markV]
  rw [hf] at lp
  simp only [Int.natCast_zero] at lp
  have c1 := @conS_mark [.cells (markV (bitL B n)) 1 true true] 0 n 1 (bitL B n) true true rfl bitL_len hn1.1
  generalize C % 64 = r at *
  generalize markV (bitL B n) = F at *
  have m1 : (n : Int) ≤ 70368744177664 := by omega
  rw [run33 _ _ _ (by simp)]
  simp (maxSteps := 1000000) (disch := first | omega | decide | assumption | simp [scal]) [o_fieldAddr fa_46_1 (by decide), loadA_eq ia_5, o_convI cv_5_3, lenA_sl lk_51, o_fieldAddr fa_46_0 (by decide), loadA_eq ia_44, o_convI cv_44_5, o_indexAddrS es_51, sz_5, ht, w0, w2, mk51, allocR, m1, lp, o_conT, c1]
end Go.Proofs.Ytjimphlkhjmaiaa.sw
namespace Go.Proofs.Ytjimphlkhjmaiaa.sw
open Go.GE
set_option linter.unusedVariables false
set_option linter.unusedSimpArgs false
set_option linter.unusedSectionVars false
theorem win_len {l : List Bool} {k i : Nat} (hi : i < l.length) : (winB l k i).length = k := by
  have h2 := @long_len l k i hi
  unfold winB
  unfold longB at h2
  rw [List.length_take, List.length_drop]
  omega
end Go.Proofs.Ytjimphlkhjmaiaa.sw
namespace Go.Proofs.Ytjimphlkhjmaiaa.sw
open Go.GE
set_option linter.unusedVariables false
set_option linter.unusedSimpArgs false
set_option linter.unusedSectionVars false
set_option maxRecDepth 100000
set_option maxHeartbeats 4000000
section
open Go.ChangeShapes Go.WideShapes Go.RowKit
variable {H : Type} {enc : TypeId × Value → H} {W : World} {base b0 : Nat} {v : Value} {d : DataW H} {p : List MemPlace}
theorem u64_wf {z : Int} (h : (Lit.int .u64 z).wf = true) : 0 ≤ z ∧ z ≤ 18446744073709551615 := by simpa [Lit.wf, IntKind.min, IntKind.max, IntKind.signed, IntKind.bits] using h
theorem open_lamp (hv : Value.okWide Try.prog W .any b0 46 v) (hd : DataW.Trod enc Try.prog W base (fun _ => true) true 46 v d p) : ∃ B C : Nat, v = lpV B C ∧ B < 2 ^ 64 ∧ C < 256 := by
  simp only [Value.okWide, Try.underlying46] at hv
  obtain ⟨cs, rfl, _, _⟩ := hv
  obtain ⟨fuel, hf⟩ := hd
  obtain ⟨zs, e, hw⟩ := open_flat 5 46 [.u64, .u8] fuel _ _ (by kernel_rfl) hf
  match zs, hw.1, hw, e with
  | [x, y], _, hw, e =>
    obtain ⟨B, rfl, hB⟩ := nat_of (b := 18446744073709551615) (u64_wf (hw.2 0 .u64 x rfl rfl))
    obtain ⟨C, rfl, hC⟩ := nat_of (b := 255) (u8_wf (hw.2 1 .u8 y rfl rfl))
    have : cs = #[.int .u64 (B : Int), uv C] := by
      cases cs
      exact congrArg Array.mk e
    subst this
    exact ⟨B, C, rfl, by omega, by omega⟩
theorem VR_lamp {m : Mp} {B C : Nat} : VR m (lpV B C) (lpV B C) := .agg (.cons (.int _ _) (.cons (.int _ _) .nil))
end
end Go.Proofs.Ytjimphlkhjmaiaa.sw
namespace Go.Proofs.Ytjimphlkhjmaiaa.sw
open Go.GE
set_option linter.unusedVariables false
set_option linter.unusedSimpArgs false
set_option linter.unusedSectionVars false
set_option maxRecDepth 100000
set_option maxHeartbeats 4000000
attribute [local simp] runOps_nil runOps_cons runOpsF_nil runOpsF_cons fstS_some fstF_some opStep_eq want_none oStep_true oStep_false fin_pure fin_read fin_alloc fin_write storeB wrN cellV addWr o_move o_assign o_pick o_alloc o_box o_load o_store o_nilCheck o_bin o_un o_extract o_callV o_callB o_callI callV_f callV_y callV_fc o_makeFunc partsA Instr.fill builtin_len builtin_max2 bin_add bin_sub bin_mul bin_quo bin_rem bin_lss bin_leq bin_gtr bin_geq bin_eql bin_neq un_neg un_not bin_shr bin_shl wrap_u64_id opd opds optAll putO nbeq nblt constOk isC ops sub cl cr co bodyOf thenS_normal thenS_ret thenS_exit thenS_goto afterN_normal afterN_ret afterN_exit afterN_goto condS_true condS_false blockS_normal blockS_ret blockS_exit blockS_goto headS normS normK_eq fixS_nil fixS_cons fix1 fixV emptyB keepO_nil keepO_cons roundC_normal roundC_exit roundC_ret roundC_goto sweep_eq sweepD rnm pickR pickW rootsB ptrT renT ptrFn renFn ptrB_flat ptrB_non renB_flat renB_non plainS_some drawS_some fpsOk disj unord range' dropTo enumT undef wrap_i64_id Value.cells mkCells ptrTo scal cellsAt rdN endS_ret resultsA Option.bind_some tupV finish reachN dep ptrL_eq ptrL renL_eq renL ptrV_bool ptrV_int ptrV_string ptrV_nilFunc ptrV_nilIface ptrV_nilPtr ptrV_ptr ptrV_nilSl ptrV_sl ptrV_iface ptrV_agg ptrV_tuple ptrV_func renV_bool renV_int renV_string renV_nilFunc renV_nilIface renV_nilPtr renV_ptr renV_nilSl renV_sl renV_iface renV_agg renV_tuple renV_func gotoS_goto gotoS_normal gotoS_exit gotoS_ret skip_seq sliceE bnd bndHi intOf optOpd keepT_nil keepT_cons keepC_t keepC_f lk_nil lk_cons lkC_t lkC_f has_nil has_cons hasC_t hasC_f rep_nil rep_cons repC_t repC_f put_eq putC_t putC_f mem_nil mem_cons memC_t memC_f idx_nil idx_cons idxC_t idxC_f reach_nil reachP_cons reachQ_t reachQ_f ptrB_dead renB_dead ins_eq
attribute [local simp] n45_1s n45_3s n45_6s n45_9s n45_13s n45_16s n45_17s n45_15s n45_18s n45_14s n45_12s n45_19s n45_11s n45_10s n45_7s n45_5s n45_21s n45_22s n45_20s n45_4s n45_2s n45_0s Try.f45
def lookX (P : Program) (t : TypeId) (h : List Blk) (x k : Option Value) (ok : Bool) : Option OR := match P.underlying t, x, k with
    | some (.map kt et), some (.map m), some kv => match P.underlying kt, zeroA P et, (match m with | none => some ([], []) | some b => (mapAt h b).map fun es => (es, [b])) with
      | some kd, some z, some (es, rd) => cond (keyKind kd kv) (match findA kv es 0 with
        | some r => some ⟨if ok then .tuple #[(r.map (·.2)).getD z, .bool r.isSome] else (r.map (·.2)).getD z, h, rd, []⟩
        | none => none) none
      | _, _, _ => none
    | _, _, _ => none
theorem o_look {σ : Tm} {h : List Blk} {d : Option Nat} {ty : TypeId} {pos : String} {af : Array Edge} {g : Option (Nat × Bool)} {t : TypeId} {x y : Operand} {ok : Bool} : aop Try.prog LL σ h ⟨d, .lookup t x y ok, ty, pos, af, g⟩ = lookX Try.prog t h (opd σ x) (opd σ y) ok := rfl
theorem look80 {h : List Blk} {b : Nat} {es : List (List Bool)} {l : List Bool} (hb : h[b]? = some (mapB es)) : lookX Try.prog 80 h (some (.map (some b))) (some (rwV l)) false = some ⟨.bool (decide (l ∈ es)), h, [b], []⟩ := by
  have e1 : Try.prog.underlying 80 = some (.map 9 4) := by kernel_rfl
  have e3 : zeroA Try.prog 4 = some (.bool false) := by kernel_rfl
  simp only [lookX, e1, u9, e3, mapAt, hb, keyKind, cond_true, Option.map_some]
  rcases find_rw (l := l) (es := es) (i := 0) with ⟨h1, j, h2, h3⟩ | ⟨h1, h2⟩
  · simp only [h2, h1, decide_true]; rfl
  · simp only [h2, h1, decide_false]; rfl
noncomputable def lp45 (m b : Nat) : ALoop := ⟨.ready, none, 45, [(5, pp m), (4, pp b)], 19, #[12, 13], n45_9, n45_10⟩
noncomputable def lpD45 (m b : Nat) : ALoop := { lp45 m b with state := .done, pending := some .ret }
abbrev bB (b : Bool) : Blk := .cells [.bool b] 1 true true
abbrev mpB (b : Nat) : Blk := .cells [.map (some b)] 1 false true
theorem loop_ptr {s : LoopState} {p : Option Code} {f : FuncId} {σ : Tm} {n : Nat} {ps : Array Tmp} {a c : Code} : ptrB (.loop ⟨s, p, f, σ, n, ps, a, c⟩) = ptrT σ := rfl
theorem loop_ren {g : Nat → Option Nat} {s : LoopState} {p : Option Code} {f : FuncId} {σ : Tm} {n : Nat} {ps : Array Tmp} {a c : Code} : renB g (.loop ⟨s, p, f, σ, n, ps, a, c⟩) = (renT g σ).map fun z => .loop ⟨s, p, f, z, n, ps, a, c⟩ := rfl
theorem mp_ptr {b : Nat} : ptrB (mpB b) = [b] := rfl
theorem mp_ren {g : Nat → Option Nat} {b : Nat} : renB g (mpB b) = (g b).map fun b' => mpB b' := by
  show (optAll (renV g dep) [.map (some b)]).map _ = _
  simp only [optAll, dep, renV_map]
  cases g b <;> rfl
theorem r45 (i : Nat) (w : List Bool) (es : List (List Bool)) : LL.rnd 0 [iv i, rwV w] [.loop (lp45 1 3), mpB 2, mapB es, bB false] =
    if w ∈ es then some ⟨.bool false, [], [(0, .loop (lpD45 1 3)), (3, bB false)]⟩ else some ⟨.bool true, [], [(0, .loop (lp45 1 3)), (2, mapB (es ++ [w]))]⟩ := by
  rw [show LL = L Try.prog (wk.wtab.keep kpT) from rfl, L_rnd_eq]
  have p1 := @map_ptr es
  have p2 := fun f => @map_ren f es
  have p3 := @map_ptr (es ++ [w])
  have p4 := fun f => @map_ren f (es ++ [w])
  have e1 : codeB Try.prog LL ⟨45, 19, 4, some 0⟩ n45_9 ⟨[(13, rwV w), (12, iv i), (5, pp 1), (4, pp 3)], [.loop (lp45 1 3), mpB 2, mapB es, bB false], []⟩ =
      some (.normal, ⟨[(7, rwV w), (13, rwV w), (12, iv i), (5, pp 1), (4, pp 3)], [.loop (lp45 1 3), mpB 2, mapB es, bB false], []⟩) := by
    simp (maxSteps := 1000000) (disch := first | omega | decide | assumption | simp [scal]) [za_4, za_80, sz_80, loadA_eq ia_80, sz_4, loadA_eq ia_4]
  have k1 := @look80 [.loop { lp45 1 3 with state := .busy }, mpB 2, mapB es, bB false] 2 es w rfl
  have k2 := @upd80 [.loop { lp45 1 3 with state := .busy }, mpB 2, mapB es, bB false] 2 es w rfl
  simp only [lp45, List.set_cons_succ, List.set_cons_zero] at k1 k2
  by_cases hw : w ∈ es
  · have e2 : codeB Try.prog LL ⟨45, 19, 4, some 0⟩ n45_10 ⟨[(7, rwV w), (13, rwV w), (12, iv i), (5, pp 1), (4, pp 3)], [.loop { lp45 1 3 with state := .busy }, mpB 2, mapB es, bB false], [0]⟩ =
        some (.ret, ⟨[(4, pp 3)], [.loop { lp45 1 3 with state := .busy }, mpB 2, mapB es, bB false], [0, 3]⟩) := by
      rw [decide_eq_true hw] at k1
      simp (maxSteps := 1000000) (disch := first | omega | decide | assumption | simp [scal]) [za_4, za_80, sz_80, loadA_eq ia_80, sz_4, loadA_eq ia_4, o_look, k1, ins, ptrV_map, p1, p2, lp45, loop_ptr, loop_ren, mp_ptr, mp_ren]
    rw [if_pos hw]
    rw [rnd_out (lp := lp45 1 3) (l1 := lp45 1 3) (l2 := { lp45 1 3 with state := .busy }) (e := .ret) rfl rfl rfl rfl rfl e1 rfl rfl e2 (by simp) rfl]
    simp (maxSteps := 1000000) (disch := first | omega | decide | assumption | simp [scal]) [ins, lp45, lpD45, loop_ptr, loop_ren, mp_ptr, mp_ren, exCode, ptrV_map, renV_map, p1, p2]
  · have e2 : codeB Try.prog LL ⟨45, 19, 4, some 0⟩ n45_10 ⟨[(7, rwV w), (13, rwV w), (12, iv i), (5, pp 1), (4, pp 3)], [.loop { lp45 1 3 with state := .busy }, mpB 2, mapB es, bB false], [0]⟩ =
        some (.normal, ⟨[(7, rwV w), (13, rwV w), (12, iv i), (5, pp 1), (4, pp 3)], [.loop { lp45 1 3 with state := .busy }, mpB 2, mapB (es ++ [w]), bB false], [0, 2]⟩) := by
      rw [decide_eq_false hw] at k1
      simp only [insS, if_neg hw] at k2
      simp (maxSteps := 1000000) (disch := first | omega | decide | assumption | simp [scal]) [za_4, za_80, sz_80, loadA_eq ia_80, sz_4, loadA_eq ia_4, o_look, o_mapU, k1, k2, ins, ptrV_map, p1, p3, lp45, loop_ptr, mp_ptr, mp_ren]
    rw [if_neg hw]
    rw [rnd_step (lp := lp45 1 3) (l1 := lp45 1 3) (l2 := { lp45 1 3 with state := .busy }) rfl rfl rfl rfl rfl e1 rfl rfl e2 rfl]
    simp (maxSteps := 1000000) (disch := first | omega | decide | assumption | simp [scal]) [ins, lp45, loop_ptr, loop_ren, mp_ptr, mp_ren, ptrV_map, renV_map, p1, p2, p3, p4]
end Go.Proofs.Ytjimphlkhjmaiaa.sw
namespace Go.Proofs.Ytjimphlkhjmaiaa.sw
open Go.GE
set_option linter.unusedVariables false
set_option linter.unusedSimpArgs false
set_option linter.unusedSectionVars false
set_option maxRecDepth 100000
set_option maxHeartbeats 4000000
attribute [local simp] runOps_nil runOps_cons runOpsF_nil runOpsF_cons fstS_some fstF_some opStep_eq want_none oStep_true oStep_false fin_pure fin_read fin_alloc fin_write storeB wrN cellV addWr o_move o_assign o_pick o_alloc o_box o_load o_store o_nilCheck o_bin o_un o_extract o_callV o_callB o_callI callV_f callV_y callV_fc o_makeFunc partsA Instr.fill builtin_len builtin_max2 bin_add bin_sub bin_mul bin_quo bin_rem bin_lss bin_leq bin_gtr bin_geq bin_eql bin_neq un_neg un_not bin_shr bin_shl wrap_u64_id opd opds optAll putO nbeq nblt constOk isC ops sub cl cr co bodyOf thenS_normal thenS_ret thenS_exit thenS_goto afterN_normal afterN_ret afterN_exit afterN_goto condS_true condS_false blockS_normal blockS_ret blockS_exit blockS_goto headS normS normK_eq fixS_nil fixS_cons fix1 fixV emptyB keepO_nil keepO_cons roundC_normal roundC_exit roundC_ret roundC_goto sweep_eq sweepD rnm pickR pickW rootsB ptrT renT ptrFn renFn ptrB_flat ptrB_non renB_flat renB_non plainS_some drawS_some fpsOk disj unord range' dropTo enumT undef wrap_i64_id Value.cells mkCells ptrTo scal cellsAt rdN endS_ret resultsA Option.bind_some tupV finish reachN dep ptrL_eq ptrL renL_eq renL ptrV_bool ptrV_int ptrV_string ptrV_nilFunc ptrV_nilIface ptrV_nilPtr ptrV_ptr ptrV_nilSl ptrV_sl ptrV_iface ptrV_agg ptrV_tuple ptrV_func renV_bool renV_int renV_string renV_nilFunc renV_nilIface renV_nilPtr renV_ptr renV_nilSl renV_sl renV_iface renV_agg renV_tuple renV_func gotoS_goto gotoS_normal gotoS_exit gotoS_ret skip_seq sliceE bnd bndHi intOf optOpd keepT_nil keepT_cons keepC_t keepC_f lk_nil lk_cons lkC_t lkC_f has_nil has_cons hasC_t hasC_f rep_nil rep_cons repC_t repC_f put_eq putC_t putC_f mem_nil mem_cons memC_t memC_f idx_nil idx_cons idxC_t idxC_f reach_nil reachP_cons reachQ_t reachQ_f ptrB_dead renB_dead ins_eq
attribute [local simp] n55_1s n55_3s n55_7s n55_10s n55_11s n55_9s n55_14s n55_16s n55_18s n55_19s n55_17s n55_15s n55_13s n55_12s n55_8s n55_6s n55_5s n55_5g n55_4s n55_2s n55_0s Try.f55
theorem y45 (i : Nat) (w : List Bool) (es : List (List Bool)) (rest : List Blk) : yieldH LL 0 [iv i, rwV w] (.loop (lp45 1 3) :: mpB 2 :: mapB es :: bB false :: rest) =
    if w ∈ es then some ⟨.bool false, .loop (lpD45 1 3) :: mpB 2 :: mapB es :: bB false :: rest, [0, 1, 2, 3], [0, 3]⟩ else some ⟨.bool true, .loop (lp45 1 3) :: mpB 2 :: mapB (es ++ [w]) :: bB false :: rest, [0, 1, 2, 3], [0, 2]⟩ := by
  have e := r45 i w es
  have p1 := @map_ptr es
  have p2 := fun f => @map_ren f es
  have p3 := @map_ptr (es ++ [w])
  have p4 := fun f => @map_ren f (es ++ [w])
  have hm : ∀ q : Nat, 20 < q → reach (.loop (lp45 1 3) :: mpB 2 :: mapB es :: bB false :: rest) 0 q [0] [] = [0, 1, 2, 3] := by
    intro q hq
    obtain ⟨q, rfl⟩ : ∃ j, q = j + 20 := ⟨q - 20, by omega⟩
    simp [reach_cons, reachC_t, reachC_f, reach_nil, rootsB, GE.mem, nblt, nbeq, loop_ptr, mp_ptr, p1, ptrB_flat, lp45, ptrT, ptrV_ptr, ptrV_map, dep]
  unfold yieldH
  have hp : 0 :: ([iv i, rwV w] : List Value).flatMap (ptrV dep) = [0] := rfl
  have hr : ∀ g, optAll (renV g dep) [iv i, rwV w] = some [iv i, rwV w] := fun _ => rfl
  simp only [hp, hm reachN (by decide), hr]
  by_cases h : w ∈ es
  · rw [if_pos h] at e ⊢
    simp only [lp45, lpD45] at e ⊢
    simp [optAll, loop_ren, mp_ren, p2, renB_flat, renT, renV_ptr, renV_map, dep, idx, nbeq, e, mergeB, renV_bool, nblt]
  · rw [if_neg h] at e ⊢
    simp only [lp45] at e ⊢
    simp [optAll, loop_ren, mp_ren, p2, p4, renB_flat, renT, renV_ptr, renV_map, dep, idx, nbeq, e, mergeB, renV_bool, nblt]
/-- are the windows from an index on different, and none of them met before? -/
def difW (l : List Bool) (k : Nat) : Nat → Nat → List (List Bool) → Bool
  | 0, _, _ => true
  | q + 1, i, es => if winB l k i ∈ es then false else difW l k q (i + 1) (es ++ [winB l k i])
section
variable (l : List Bool) (k : Nat) (h1 : 1 ≤ l.length) (h64 : l.length ≤ 64) (hk : k ≤ 64)
include h1 h64 hk
theorem l55b : ∀ (q p : Nat) (es : List (List Bool)) (W : List Nat), p + q = l.length → (W = [] ∨ W = [0, 2]) →
    (difW l k q p es = true → ∃ es' W', (W' = [0, 2] ∨ W' = W ∧ es' = es) ∧
      lpB Try.prog LL ⟨55, 28, 6, none⟩ n55_5 n55_6 ⟨[(0, .func (.yield 0) #[] #[]), (2, pp 5), (4, rwV (longB l k)), (14, pp 6)], [.loop (lp45 1 3), mpB 2, mapB es, bB false, strB l, intB k, .siter ⟨(markU l).toArray⟩ p], W⟩ =
        some (.exit 0, ⟨[], [.loop (lp45 1 3), mpB 2, mapB es', bB false, strB l, intB k], W'⟩)) ∧
    (difW l k q p es = false → ∃ es' W', (W' = [0, 2, 3] ∨ W = [] ∧ W' = [0, 3] ∧ es' = es) ∧
      lpB Try.prog LL ⟨55, 28, 6, none⟩ n55_5 n55_6 ⟨[(0, .func (.yield 0) #[] #[]), (2, pp 5), (4, rwV (longB l k)), (14, pp 6)], [.loop (lp45 1 3), mpB 2, mapB es, bB false, strB l, intB k, .siter ⟨(markU l).toArray⟩ p], W⟩ =
        some (.ret, ⟨[], [.loop (lpD45 1 3), mpB 2, mapB es', bB false, strB l, intB k], W'⟩)) := by
  intro q
  induction q with
  | zero =>
    intro p es W hp hW
    refine ⟨fun _ => ⟨es, W, by rcases hW with rfl | rfl <;> simp, ?_⟩, fun h => by simp [difW] at h⟩
    have n1 := @next_end [.loop (lp45 1 3), mpB 2, mapB es, bB false, strB l, intB k, .siter ⟨(markU l).toArray⟩ p] 6 p l rfl (by omega)
    have p1 := @map_ptr es
    have p2 := fun f => @map_ren f es
    simp only [lp45] at n1 ⊢
    unfold mapB at *
    generalize mapS es = E at *
    generalize (⟨(markU l).toArray⟩ : ByteArray) = s at *
    rw [lpB_eq]
    rcases hW with rfl | rfl <;>
    simp (maxSteps := 1000000) (disch := first | omega | decide | assumption | simp [scal]) [loadA_eq ia_9, loadA_eq ia_3, siter_ptr, siter_ren, o_nextT, n1, loop_ptr, loop_ren, mp_ptr, mp_ren, p1, p2]
  | succ q ih =>
    intro p es W hp hW
    have hpl : p < l.length := by omega
    have n1 := @next_row [.loop (lp45 1 3), mpB 2, mapB es, bB false, strB l, intB k, .siter ⟨(markU l).toArray⟩ p] 6 p l rfl hpl
    have s1 := fun h => @slice_win l k p hpl h
    have w1 : IntKind.i64.wrap ((p : Int) + (k : Int)) = (p : Int) + k := wrap_i64_id (by omega) (by omega)
    have y1 := y45 p (winB l k p) es [strB l, intB k, .siter ⟨(markU l).toArray⟩ (p + 1)]
    have p1 := @map_ptr es
    have p2 := fun f => @map_ren f es
    have p3 := @map_ptr (es ++ [winB l k p])
    have p4 := fun f => @map_ren f (es ++ [winB l k p])
    simp only [difW]
    by_cases h : winB l k p ∈ es
    · rw [if_pos h] at y1
      simp only [if_pos h]
      refine ⟨fun h => by simp at h, fun _ => ⟨es, (match W with | [] => [0, 3] | _ => [0, 2, 3]), by rcases hW with rfl | rfl <;> simp, ?_⟩⟩
      clear ih p3 p4 h
      simp only [lp45, lpD45, List.set_cons_succ, List.set_cons_zero] at n1 y1 ⊢
      unfold mapB at *
      generalize mapS es = E at *
      generalize (⟨(markU l).toArray⟩ : ByteArray) = s at *
      generalize ((cond (l.getD p false) 49 48 : Nat) : Int) = rr at *
      generalize winB l k p = w at *
      rw [show rwV (longB l k) = .string ⟨(markU (longB l k)).toArray⟩ from rfl]
      generalize (⟨(markU (longB l k)).toArray⟩ : ByteArray) = ls at *
      rw [lpB_eq]
      rcases hW with rfl | rfl <;>
      simp (maxSteps := 1000000) (disch := first | omega | decide | assumption | simp [scal]) [loadA_eq ia_9, loadA_eq ia_3, siter_ptr, siter_ren, o_nextT, n1, o_sliceT, s1, w1, y1, callV_y, addWr, ins, loop_ptr, loop_ren, mp_ptr, mp_ren, p1, p2]
    · rw [if_neg h] at y1
      simp only [if_neg h]
      obtain ⟨i1, i2⟩ := ih (p + 1) (es ++ [winB l k p]) [0, 2] (by omega) (.inr rfl)
      clear ih
      have key : lpB Try.prog LL ⟨55, 28, 6, none⟩ n55_5 n55_6 ⟨[(0, .func (.yield 0) #[] #[]), (2, pp 5), (4, rwV (longB l k)), (14, pp 6)], [.loop (lp45 1 3), mpB 2, mapB es, bB false, strB l, intB k, .siter ⟨(markU l).toArray⟩ p], W⟩ =
          lpB Try.prog LL ⟨55, 28, 6, none⟩ n55_5 n55_6 ⟨[(0, .func (.yield 0) #[] #[]), (2, pp 5), (4, rwV (longB l k)), (14, pp 6)], [.loop (lp45 1 3), mpB 2, mapB (es ++ [winB l k p]), bB false, strB l, intB k, .siter ⟨(markU l).toArray⟩ (p + 1)], [0, 2]⟩ := by
        clear i1 i2 h
        simp only [lp45, List.set_cons_succ, List.set_cons_zero] at n1 y1 ⊢
        unfold mapB at *
        generalize mapS (es ++ [winB l k p]) = E2 at *
        generalize mapS es = E at *
        generalize (⟨(markU l).toArray⟩ : ByteArray) = s at *
        generalize ((cond (l.getD p false) 49 48 : Nat) : Int) = rr at *
        generalize winB l k p = w at *
        rw [show rwV (longB l k) = .string ⟨(markU (longB l k)).toArray⟩ from rfl]
        generalize (⟨(markU (longB l k)).toArray⟩ : ByteArray) = ls at *
        conv => lhs; rw [lpB_eq]
        rcases hW with rfl | rfl <;>
        simp (maxSteps := 1000000) (disch := first | omega | decide | assumption | simp [scal]) [loadA_eq ia_9, loadA_eq ia_3, siter_ptr, siter_ren, o_nextT, n1, o_sliceT, s1, w1, y1, callV_y, addWr, ins, loop_ptr, loop_ren, mp_ptr, mp_ren, p1, p2, p3, p4]
      rw [key]
      refine ⟨fun hd => ?_, fun hd => ?_⟩
      · obtain ⟨es', W', g1, g2⟩ := i1 hd
        rcases g1 with rfl | ⟨rfl, rfl⟩
        · exact ⟨es', _, .inl rfl, g2⟩
        · exact ⟨_, _, .inl rfl, g2⟩
      · obtain ⟨es', W', g1, g2⟩ := i2 hd
        rcases g1 with rfl | ⟨z, _⟩
        · exact ⟨es', _, .inl rfl, g2⟩
        · cases z
end
end Go.Proofs.Ytjimphlkhjmaiaa.sw
namespace Go.Proofs.Ytjimphlkhjmaiaa.sw
open Go.GE
set_option linter.unusedVariables false
set_option linter.unusedSimpArgs false
set_option linter.unusedSectionVars false
set_option maxRecDepth 100000
set_option maxHeartbeats 4000000
attribute [local simp] runOps_nil runOps_cons runOpsF_nil runOpsF_cons fstS_some fstF_some opStep_eq want_none oStep_true oStep_false fin_pure fin_read fin_alloc fin_write storeB wrN cellV addWr o_move o_assign o_pick o_alloc o_box o_load o_store o_nilCheck o_bin o_un o_extract o_callV o_callB o_callI callV_f callV_y callV_fc o_makeFunc partsA Instr.fill builtin_len builtin_max2 bin_add bin_sub bin_mul bin_quo bin_rem bin_lss bin_leq bin_gtr bin_geq bin_eql bin_neq un_neg un_not bin_shr bin_shl wrap_u64_id opd opds optAll putO nbeq nblt constOk isC ops sub cl cr co bodyOf thenS_normal thenS_ret thenS_exit thenS_goto afterN_normal afterN_ret afterN_exit afterN_goto condS_true condS_false blockS_normal blockS_ret blockS_exit blockS_goto headS normS normK_eq fixS_nil fixS_cons fix1 fixV emptyB keepO_nil keepO_cons roundC_normal roundC_exit roundC_ret roundC_goto sweep_eq sweepD rnm pickR pickW rootsB ptrT renT ptrFn renFn ptrB_flat ptrB_non renB_flat renB_non plainS_some drawS_some fpsOk disj unord range' dropTo enumT undef wrap_i64_id Value.cells mkCells ptrTo scal cellsAt rdN endS_ret resultsA Option.bind_some tupV finish reachN dep ptrL_eq ptrL renL_eq renL ptrV_bool ptrV_int ptrV_string ptrV_nilFunc ptrV_nilIface ptrV_nilPtr ptrV_ptr ptrV_nilSl ptrV_sl ptrV_iface ptrV_agg ptrV_tuple ptrV_func renV_bool renV_int renV_string renV_nilFunc renV_nilIface renV_nilPtr renV_ptr renV_nilSl renV_sl renV_iface renV_agg renV_tuple renV_func gotoS_goto gotoS_normal gotoS_exit gotoS_ret skip_seq sliceE bnd bndHi intOf optOpd keepT_nil keepT_cons keepC_t keepC_f lk_nil lk_cons lkC_t lkC_f has_nil has_cons hasC_t hasC_f rep_nil rep_cons repC_t repC_f put_eq putC_t putC_f mem_nil mem_cons memC_t memC_f idx_nil idx_cons idxC_t idxC_f reach_nil reachP_cons reachQ_t reachQ_f ptrB_dead renB_dead ins_eq
attribute [local simp] n55_1s n55_3s n55_7s n55_10s n55_11s n55_9s n55_14s n55_16s n55_18s n55_19s n55_17s n55_15s n55_13s n55_12s n55_8s n55_6s n55_5s n55_5g n55_4s n55_2s n55_0s Try.f55 n45_1s n45_3s n45_6s n45_9s n45_13s n45_16s n45_17s n45_15s n45_18s n45_14s n45_12s n45_19s n45_11s n45_10s n45_7s n45_5s n45_21s n45_22s n45_20s n45_4s n45_2s n45_0s Try.f45
section
variable (l : List Bool) (k : Nat) (h1 : 1 ≤ l.length) (h64 : l.length ≤ 64) (hk : k ≤ 64)
include h1 h64 hk
theorem c55b :
    (difW l k l.length 0 [] = true → ∃ es' ws, (ws = [(0, .loop (lp45 1 3)), (2, mapB es')] ∨ ws = [] ∧ es' = []) ∧
      LL.run 55 [.func (.yield 0) #[] #[], pp 4, pp 5] [.loop (lp45 1 3), mpB 2, mapB [], bB false, strB l, intB k] = some ⟨.tuple #[], [], ws⟩) ∧
    (difW l k l.length 0 [] = false → ∃ es' ws, (ws = [(0, .loop (lpD45 1 3)), (2, mapB es'), (3, bB false)] ∨ ws = [(0, .loop (lpD45 1 3)), (3, bB false)] ∧ es' = []) ∧
      LL.run 55 [.func (.yield 0) #[] #[], pp 4, pp 5] [.loop (lp45 1 3), mpB 2, mapB [], bB false, strB l, intB k] = some ⟨.tuple #[], [], ws⟩) := by
  obtain ⟨t1, t2⟩ := l55b l k h1 h64 hk l.length 0 [] [] (by omega) (.inl rfl)
  have d1 : ((k : Int).tdiv (l.length : Int)) = ((k / l.length : Nat) : Int) := rfl
  have hd : k / l.length ≤ k := Nat.div_le_self _ _
  have w1 : IntKind.i64.wrap ((k / l.length : Nat) : Int) = ((k / l.length : Nat) : Int) := wrap_nn (by omega)
  have w2 : IntKind.i64.wrap (2 + ((k / l.length : Nat) : Int)) = ((2 + k / l.length : Nat) : Int) := by rw [show (2 : Int) + ((k / l.length : Nat) : Int) = ((2 + k / l.length : Nat) : Int) from (by simp)]; exact wrap_nn (by omega)
  have a1 : ∀ h, callH LL 56 [rwV l, iv (2 + ((k / l.length : Nat) : Int))] h = some ⟨rwV (repB l (2 + k / l.length)), h, [], []⟩ := fun h => by
    have := k56 l (2 + k / l.length) (by omega) (by omega) h
    rw [show ((2 + k / l.length : Nat) : Int) = (2 : Int) + ((k / l.length : Nat) : Int) from (by simp)] at this
    exact this
  have a2 : ∀ h, lenA Try.prog h 9 (.string ⟨(markU l).toArray⟩) = some (iv (markU l).length, []) := fun h => @lenA_st h (markU l)
  have hz : ¬ ((l.length : Int) = 0) := by omega
  rw [mark_len] at a2
  have q1 : mapB [] = .map [] := rfl
  have pre : ∀ R, lpB Try.prog LL ⟨55, 28, 6, none⟩ n55_5 n55_6 ⟨[(0, .func (.yield 0) #[] #[]), (2, pp 5), (4, rwV (longB l k)), (14, pp 6)], [.loop (lp45 1 3), mpB 2, mapB [], bB false, strB l, intB k, .siter ⟨(markU l).toArray⟩ 0], []⟩ = some R → (∃ h ws, R = (.exit 0, ⟨[], h, ws⟩) ∨ R = (.ret, ⟨[], h, ws⟩)) →
      LL.run 55 [.func (.yield 0) #[] #[], pp 4, pp 5] [.loop (lp45 1 3), mpB 2, mapB [], bB false, strB l, intB k] = endS Try.prog [] 6 (some (match R with | (.ret, s) => (.ret, s) | (_, s) => (.normal, s))) := by
    intro R this hR
    refine (L_run_eq rfl).trans ?_
    rw [run55 _ _ _ (by simp)]
    clear t1 t2
    rw [q1] at *
    simp only [lp45, longB] at this ⊢
    generalize repB l (2 + k / l.length) = lb at *
    generalize k / l.length = kd at *
    unfold strB rwV st at *
    generalize (⟨(markU l).toArray⟩ : ByteArray) = s at *
    obtain ⟨h, ws, rfl | rfl⟩ := hR
    · simp (maxSteps := 1000000) (disch := first | omega | decide | assumption | simp [scal]) [loadA_eq ia_9, loadA_eq ia_3, siter_ptr, siter_ren, o_rangeT, loop_ptr, loop_ren, mp_ptr, mp_ren, d1, hz, w1, w2, a1, a2, this]
    · simp (maxSteps := 1000000) (disch := first | omega | decide | assumption | simp [scal]) [loadA_eq ia_9, loadA_eq ia_3, siter_ptr, siter_ren, o_rangeT, loop_ptr, loop_ren, mp_ptr, mp_ren, d1, hz, w1, w2, a1, a2, this]
  refine ⟨fun hd => ?_, fun hd => ?_⟩
  · obtain ⟨es', W', g1, g2⟩ := t1 hd
    have p1 := @map_ptr es'
    have p2 := fun f => @map_ren f es'
    have := pre _ g2 ⟨_, _, .inl rfl⟩
    rcases g1 with rfl | ⟨rfl, rfl⟩
    · refine ⟨es', _, .inl rfl, this.trans ?_⟩
      simp only [lp45]
      unfold mapB at *
      generalize mapS es' = E at *
      simp [endS_normal, finish, loop_ptr, loop_ren, renB_flat, p1, p2, renT, renV_ptr]
    · refine ⟨[], _, .inr ⟨rfl, rfl⟩, this.trans ?_⟩
      simp [endS_normal, finish]
  · obtain ⟨es', W', g1, g2⟩ := t2 hd
    have p1 := @map_ptr es'
    have p2 := fun f => @map_ren f es'
    have := pre _ g2 ⟨_, _, .inr rfl⟩
    rcases g1 with rfl | ⟨_, rfl, rfl⟩
    · refine ⟨es', _, .inl rfl, this.trans ?_⟩
      simp only [lp45, lpD45]
      unfold mapB at *
      generalize mapS es' = E at *
      simp [endS, finish, loop_ptr, loop_ren, renB_flat, p1, p2, renT, renV_ptr]
    · refine ⟨[], _, .inr ⟨rfl, rfl⟩, this.trans ?_⟩
      simp only [lp45, lpD45]
      simp [endS, finish, loop_ptr, loop_ren, renB_flat, p1, p2, renT, renV_ptr]
theorem h55b :
    (difW l k l.length 0 [] = true → ∃ es' W, (W = [5, 1] ∨ W = []) ∧
      callH LL 55 [.func (.yield 5) #[] #[], pp 3, pp 4] [bB false, mapB [], mpB 1, strB l, intB k, .loop (lp45 2 0)] =
        some ⟨.tuple #[], [bB false, mapB es', mpB 1, strB l, intB k, .loop (lp45 2 0)], [5, 2, 1, 0, 3, 4], W⟩) ∧
    (difW l k l.length 0 [] = false → ∃ es' W, (W = [5, 1, 0] ∨ W = [5, 0]) ∧
      callH LL 55 [.func (.yield 5) #[] #[], pp 3, pp 4] [bB false, mapB [], mpB 1, strB l, intB k, .loop (lp45 2 0)] =
        some ⟨.tuple #[], [bB false, mapB es', mpB 1, strB l, intB k, .loop (lpD45 2 0)], [5, 2, 1, 0, 3, 4], W⟩) := by
  obtain ⟨t1, t2⟩ := c55b l k h1 h64 hk
  have p0 : ptrB (mapB []) = [] := rfl
  have hm : ∀ q : Nat, 20 < q → reach [bB false, mapB [], mpB 1, strB l, intB k, .loop (lp45 2 0)] 0 q [5, 3, 4] [] = [5, 2, 1, 0, 3, 4] := by
    intro q hq
    obtain ⟨q, rfl⟩ : ∃ j, q = j + 20 := ⟨q - 20, by omega⟩
    simp [reach_cons, reachC_t, reachC_f, reach_nil, rootsB, GE.mem, nblt, nbeq, loop_ptr, mp_ptr, p0, ptrB_flat, lp45, ptrT, ptrV_ptr, ptrV_map, dep]
  have hp : ([.func (.yield 5) #[] #[], pp 3, pp 4] : List Value).flatMap (ptrV dep) = [5, 3, 4] := rfl
  have q0 : ∀ f, renB f (mapB []) = some (mapB []) := fun f => rfl
  have key : ∀ rr, LL.run 55 [.func (.yield 0) #[] #[], pp 4, pp 5] [.loop (lp45 1 3), mpB 2, mapB [], bB false, strB l, intB k] = some rr →
      callH0 LL 55 [.func (.yield 5) #[] #[], pp 3, pp 4] [bB false, mapB [], mpB 1, strB l, intB k, .loop (lp45 2 0)] =
        mergeB [bB false, mapB [], mpB 1, strB l, intB k, .loop (lp45 2 0)] [5, 2, 1, 0, 3, 4] rr := by
    intro rr hrr
    unfold callH0
    simp only [hp, hm reachN (by decide)]
    simp only [lp45] at hrr ⊢
    simp [optAll, renV_func, renFn, renL, renV_ptr, dep, idx, nbeq, loop_ren, mp_ren, q0, renB_flat, renT, renL_eq, renV_int, renV_sl, renV_map, hrr]
  refine ⟨fun hd => ?_, fun hd => ?_⟩
  · obtain ⟨es', ws, g1, g2⟩ := t1 hd
    have p2 := fun f => @map_ren f es'
    rcases g1 with rfl | ⟨rfl, rfl⟩
    · refine ⟨es', _, .inl rfl, callH_of (by intro _; first | trivial | rfl) ?_ (by simp)⟩
      rw [key _ g2]
      simp only [lp45]
      simp [mergeB, renV_tuple, renL, dep, optAll, loop_ren, mp_ren, p2, renB_flat, renT, renV_ptr, nblt]
    · refine ⟨[], _, .inr rfl, callH_of (by intro _; first | trivial | rfl) ?_ (by simp)⟩
      rw [key _ g2]
      simp [mergeB, renV_tuple, renL, dep, optAll]
  · obtain ⟨es', ws, g1, g2⟩ := t2 hd
    have p2 := fun f => @map_ren f es'
    rcases g1 with rfl | ⟨rfl, rfl⟩
    · refine ⟨es', _, .inl rfl, callH_of (by intro _; first | trivial | rfl) ?_ (by simp)⟩
      rw [key _ g2]
      simp only [lp45, lpD45]
      simp [mergeB, renV_tuple, renL, dep, optAll, loop_ren, mp_ren, p2, renB_flat, renT, renV_ptr, nblt]
    · refine ⟨[], _, .inr rfl, callH_of (by intro _; first | trivial | rfl) ?_ (by simp)⟩
      rw [key _ g2]
      simp only [lp45, lpD45]
      simp [mergeB, renV_tuple, renL, dep, optAll, loop_ren, mp_ren, p2, renB_flat, renT, renV_ptr, nblt]
/-- all windows of a length are different -/
abbrev difB (l : List Bool) (k : Nat) : Bool := difW l k l.length 0 []
theorem k45 (h : List Blk) : callH LL 45 [rwV l, iv k] h = some ⟨.bool (difB l k), h, [], []⟩ := by
  refine callH_none rfl (fun _ => rfl) (L_run rfl ?_) fun _ => rfl
  obtain ⟨t1, t2⟩ := h55b l k h1 h64 hk
  have c2 := fun h => k40 l k h
  have q1 : mapB [] = .map [] := rfl
  have q2 : mapS [] = [] := rfl
  have q3 : ptrB (.map []) = [] := rfl
  have q4 : ∀ f, renB f (.map []) = some (.map []) := fun f => rfl
  rw [run45 _ _ _ (by simp)]
  rcases Bool.eq_false_or_eq_true (difB l k) with w | w
  · obtain ⟨es', W, hW, e⟩ := t1 w
    rw [w]
    have p1 := @map_ptr es'
    have p2 := fun f => @map_ren f es'
    rw [q1] at e
    simp only [lp45] at e
    clear t1 t2 w
    unfold mapB at e
    generalize mapS es' = E at *
    simp (maxSteps := 1000000) (disch := first | omega | decide | assumption | simp [scal]) [za_4, za_80, sz_80, loadA_eq ia_80, sz_4, loadA_eq ia_4, o_makeMap, allocR, c2, ptrV_map, renV_map, mp_ptr, mp_ren, q2, q3, q4]
    rw [range_step n45_8e n45_8k rfl]
    simp (maxSteps := 1000000) (disch := first | omega | decide | assumption | simp [scal]) [za_4, za_80, sz_80, loadA_eq ia_80, sz_4, loadA_eq ia_4, o_makeMap, allocR, c2, ptrV_map, renV_map, mp_ptr, mp_ren, e]
    rw [rangeE_ready rfl rfl rfl]
    rcases hW with rfl | rfl <;>
    simp (maxSteps := 1000000) (disch := first | omega | decide | assumption | simp [scal]) [za_4, za_80, sz_80, loadA_eq ia_80, sz_4, loadA_eq ia_4, addWr, ptrV_map, renV_map, mp_ptr, mp_ren, p1, p2]
  · obtain ⟨es', W, hW, e⟩ := t2 w
    rw [w]
    have p1 := @map_ptr es'
    have p2 := fun f => @map_ren f es'
    rw [q1] at e
    simp only [lp45, lpD45] at e
    clear t1 t2 w
    unfold mapB at e
    generalize mapS es' = E at *
    simp (maxSteps := 1000000) (disch := first | omega | decide | assumption | simp [scal]) [za_4, za_80, sz_80, loadA_eq ia_80, sz_4, loadA_eq ia_4, o_makeMap, allocR, c2, ptrV_map, renV_map, mp_ptr, mp_ren, q2, q3, q4]
    rw [range_step n45_8e n45_8k rfl]
    simp (maxSteps := 1000000) (disch := first | omega | decide | assumption | simp [scal]) [za_4, za_80, sz_80, loadA_eq ia_80, sz_4, loadA_eq ia_4, o_makeMap, allocR, c2, ptrV_map, renV_map, mp_ptr, mp_ren, e]
    rw [rangeE_done (e := .ret) rfl rfl rfl rfl]
    rcases hW with rfl | rfl <;>
    simp (maxSteps := 1000000) (disch := first | omega | decide | assumption | simp [scal]) [za_4, za_80, sz_80, loadA_eq ia_80, sz_4, loadA_eq ia_4, addWr, ptrV_map, renV_map, mp_ptr, mp_ren, p1, p2]
end
end Go.Proofs.Ytjimphlkhjmaiaa.sw
namespace Go.Proofs.Ytjimphlkhjmaiaa.sw
open Go.GE
set_option linter.unusedVariables false
set_option linter.unusedSimpArgs false
set_option linter.unusedSectionVars false
set_option maxRecDepth 100000
set_option maxHeartbeats 4000000
attribute [local simp] runOps_nil runOps_cons runOpsF_nil runOpsF_cons fstS_some fstF_some opStep_eq want_none oStep_true oStep_false fin_pure fin_read fin_alloc fin_write storeB wrN cellV addWr o_move o_assign o_pick o_alloc o_box o_load o_store o_nilCheck o_bin o_un o_extract o_callV o_callB o_callI callV_f callV_y callV_fc o_makeFunc partsA Instr.fill builtin_len builtin_max2 bin_add bin_sub bin_mul bin_quo bin_rem bin_lss bin_leq bin_gtr bin_geq bin_eql bin_neq un_neg un_not bin_shr bin_shl wrap_u64_id opd opds optAll putO nbeq nblt constOk isC ops sub cl cr co bodyOf thenS_normal thenS_ret thenS_exit thenS_goto afterN_normal afterN_ret afterN_exit afterN_goto condS_true condS_false blockS_normal blockS_ret blockS_exit blockS_goto headS normS normK_eq fixS_nil fixS_cons fix1 fixV emptyB keepO_nil keepO_cons roundC_normal roundC_exit roundC_ret roundC_goto sweep_eq sweepD rnm pickR pickW rootsB ptrT renT ptrFn renFn ptrB_flat ptrB_non renB_flat renB_non plainS_some drawS_some fpsOk disj unord range' dropTo enumT undef wrap_i64_id Value.cells mkCells ptrTo scal cellsAt rdN endS_ret resultsA Option.bind_some tupV finish reachN dep ptrL_eq ptrL renL_eq renL ptrV_bool ptrV_int ptrV_string ptrV_nilFunc ptrV_nilIface ptrV_nilPtr ptrV_ptr ptrV_nilSl ptrV_sl ptrV_iface ptrV_agg ptrV_tuple ptrV_func renV_bool renV_int renV_string renV_nilFunc renV_nilIface renV_nilPtr renV_ptr renV_nilSl renV_sl renV_iface renV_agg renV_tuple renV_func gotoS_goto gotoS_normal gotoS_exit gotoS_ret skip_seq sliceE bnd bndHi intOf optOpd keepT_nil keepT_cons keepC_t keepC_f lk_nil lk_cons lkC_t lkC_f has_nil has_cons hasC_t hasC_f rep_nil rep_cons repC_t repC_f put_eq putC_t putC_f mem_nil mem_cons memC_t memC_f idx_nil idx_cons idxC_t idxC_f reach_nil reachP_cons reachQ_t reachQ_f ptrB_dead renB_dead ins_eq
attribute [local simp] n19_1s n19_4s n19_6s n19_9s n19_10s n19_8s n19_11s n19_7s n19_5s n19_3s n19_14s n19_18s n19_21s n19_22s n19_20s n19_26s n19_28s n19_31s n19_32s n19_30s n19_33s n19_29s n19_27s n19_25s n19_24s n19_34s n19_23s n19_19s n19_17s n19_16s n19_16g n19_15s n19_13s n19_36s n19_37s n19_35s n19_12s n19_2s n19_0s Try.f19
def fstD (l : List Bool) : Nat → Nat → Option Nat
  | 0, _ => none
  | q + 1, k => if difB l k = true then some k else fstD l q (k + 1)
def clrV (l : List Bool) : Nat × Nat := match fstD l (l.length + 1) 0 with
  | some k => (k, 0)
  | none => (0, 14)
section
variable (l : List Bool) (h1 : 1 ≤ l.length) (h64 : l.length ≤ 64)
include h1 h64
theorem l19 : ∀ (q k : Nat), k + q = l.length + 1 →
    lpB Try.prog LL ⟨19, 22, 0, none⟩ n19_16 n19_17 ⟨[(0, rwV l), (13, .int .i64 ((l.length : Int) + 1)), (14, iv k)], [], []⟩ =
      match fstD l q k with
      | some j => some (.ret, ⟨[(2, iv j), (3, iv 0)], [], []⟩)
      | none => some (.exit 0, ⟨[], [], []⟩) := by
  intro q
  induction q with
  | zero =>
    intro k hk
    have e1 : ¬ ((k : Int) < (l.length : Int) + 1) := by omega
    simp only [fstD]
    rw [lpB_eq]
    simp (maxSteps := 1000000) (disch := first | omega | decide | assumption | simp [scal]) [e1]
  | succ q ih =>
    intro k hk
    have e1 : ((k : Int) < (l.length : Int) + 1) := by omega
    have this := ih (k + 1) (by omega)
    simp only [cast1] at this
    have c1 := fun h => k45 l k h1 h64 (by omega) h
    simp only [fstD]
    by_cases hd : difB l k = true
    · rw [hd] at c1
      simp only [hd, if_true]
      rw [lpB_eq]
      simp (maxSteps := 1000000) (disch := first | omega | decide | assumption | simp [scal]) [e1, c1]
    · have hd' : difB l k = false := by simpa using hd
      rw [hd'] at c1
      simp only [hd', Bool.false_eq_true, if_false]
      rw [← this]
      clear this ih
      have this := Eq.refl (lpB Try.prog LL ⟨19, 22, 0, none⟩ n19_16 n19_17 ⟨[(0, rwV l), (13, .int .i64 ((l.length : Int) + 1)), (14, .int .i64 ((k : Int) + 1))], [], []⟩)
      conv => lhs; rw [lpB_eq]
      simp (maxSteps := 1000000) (disch := first | omega | decide | assumption | simp [scal]) [e1, c1]
theorem k19 (h : List Blk) : callH LL 19 [rwV l] h = some ⟨.tuple #[iv (clrV l).1, iv (clrV l).2], h, [], []⟩ := by
  refine callH_none rfl (fun _ => rfl) (L_run rfl ?_) fun _ => rfl
  have c1 := fun h => k22 l h1 h64 h
  have a2 := fun h => @lenA_st h (markU l)
  rw [mark_len] at a2
  have lp := l19 l h1 h64 (l.length + 1) 0 (by omega)
  simp only [Int.natCast_zero] at lp
  have w1 : IntKind.i64.wrap ((l.length : Int) + 1) = (l.length : Int) + 1 := wrap_i64_id (by omega) (by omega)
  rw [run19 _ _ _ (by simp)]
  unfold clrV
  rcases hf : fstD l (l.length + 1) 0 with _ | j
  · rw [hf] at lp
    simp only [] at lp
    simp (maxSteps := 1000000) (disch := first | omega | decide | assumption | simp [scal]) [c1, a2, w1, lp]
  · rw [hf] at lp
    simp only [] at lp
    simp (maxSteps := 1000000) (disch := first | omega | decide | assumption | simp [scal]) [c1, a2, w1, lp]
end
end Go.Proofs.Ytjimphlkhjmaiaa.sw
namespace Go.Proofs.Ytjimphlkhjmaiaa.sw
open Go.GE
set_option linter.unusedVariables false
set_option linter.unusedSimpArgs false
set_option linter.unusedSectionVars false
def D (l : List Bool) (k : Nat) : Prop := ∀ i j, i < l.length → j < l.length → winB l k i = winB l k j → i = j
theorem dif_iff (l : List Bool) (k : Nat) : ∀ (q i : Nat) (acc : List (List Bool)), difW l k q i acc = true ↔ (∀ j, j < q → winB l k (i + j) ∉ acc) ∧ ∀ a b, a < q → b < q → winB l k (i + a) = winB l k (i + b) → a = b := by
  intro q
  induction q with
  | zero => intro i acc; simp only [difW]; exact ⟨fun _ => ⟨fun j h => by omega, fun a b h => by omega⟩, fun _ => trivial⟩
  | succ q ih =>
    intro i acc
    rw [difW]
    by_cases h : winB l k i ∈ acc
    · rw [if_pos h]
      refine ⟨fun h => (by cases h), fun hh => absurd h (hh.1 0 (by omega))⟩
    · rw [if_neg h, ih]
      constructor
      · rintro ⟨g1, g2⟩
        refine ⟨fun j hj => ?_, fun a b ha hb e => ?_⟩
        · cases j with
          | zero => exact h
          | succ j =>
            have := g1 j (by omega)
            rw [show i + 1 + j = i + (j + 1) by omega] at this
            exact fun hc => this (List.mem_append_left _ hc)
        · cases a with
          | zero => cases b with
            | zero => rfl
            | succ b =>
              have := g1 b (by omega)
              rw [show i + 1 + b = i + (b + 1) by omega, ← e] at this
              exact absurd (List.mem_append_right _ (by simp)) this
          | succ a => cases b with
            | zero =>
              have := g1 a (by omega)
              rw [show i + 1 + a = i + (a + 1) by omega, e] at this
              exact absurd (List.mem_append_right _ (by simp)) this
            | succ b =>
              have := g2 a b (by omega) (by omega) (by rw [show i + 1 + a = i + (a + 1) by omega, show i + 1 + b = i + (b + 1) by omega]; exact e)
              omega
      · rintro ⟨g1, g2⟩
        refine ⟨fun j hj hc => ?_, fun a b ha hb e => ?_⟩
        · rcases List.mem_append.1 hc with hc | hc
          · have := g1 (j + 1) (by omega)
            rw [show i + 1 + j = i + (j + 1) by omega] at hc
            exact this hc
          · have := g2 (j + 1) 0 (by omega) (by omega) (by rw [show i + (j + 1) = i + 1 + j by omega]; exact List.mem_singleton.1 hc)
            omega
        · have := g2 (a + 1) (b + 1) (by omega) (by omega) (by rw [show i + (a + 1) = i + 1 + a by omega, show i + (b + 1) = i + 1 + b by omega]; exact e)
          omega
theorem difB_iff {l : List Bool} {k : Nat} : difB l k = true ↔ D l k := by
  rw [difB, dif_iff]
  constructor
  · rintro ⟨_, h⟩ i j hi hj e
    exact h i j hi hj (by rw [Nat.zero_add, Nat.zero_add]; exact e)
  · intro h
    refine ⟨fun j _ => by simp, fun a b ha hb e => h a b ha hb ?_⟩
    rw [Nat.zero_add, Nat.zero_add] at e; exact e
theorem fst_ok (l : List Bool) : ∀ (q k : Nat), match fstD l q k with
    | some j => k ≤ j ∧ j < k + q ∧ difB l j = true ∧ ∀ i, k ≤ i → i < j → difB l i = false
    | none => ∀ i, k ≤ i → i < k + q → difB l i = false := by
  intro q
  induction q with
  | zero => intro k; simp only [fstD]; intro i h1 h2; omega
  | succ q ih =>
    intro k
    simp only [fstD]
    by_cases h : difB l k = true
    · simp only [h, if_true]
      exact ⟨Nat.le_refl _, by omega, trivial, fun i h1 h2 => by omega⟩
    · have hf : difB l k = false := by simpa using h
      simp only [hf, Bool.false_eq_true, if_false]
      have := ih (k + 1)
      cases hd : fstD l q (k + 1) with
      | none =>
        rw [hd] at this
        intro i h1 h2
        by_cases e : i = k
        · subst e; exact hf
        · exact this i (by omega) (by omega)
      | some j =>
        rw [hd] at this
        obtain ⟨g1, g2, g3, g4⟩ := this
        refine ⟨by omega, by omega, g3, fun i h1 h2 => ?_⟩
        by_cases e : i = k
        · subst e; exact hf
        · exact g4 i (by omega) h2
theorem clr_ok (l : List Bool) : (clrV l = (0, 14) ∧ difB l l.length = false) ∨ ∃ j, clrV l = (j, 0) ∧ j ≤ l.length ∧ difB l j = true ∧ ∀ i, i < j → difB l i = false := by
  have := fst_ok l (l.length + 1) 0
  unfold clrV
  cases hd : fstD l (l.length + 1) 0 with
  | none => rw [hd] at this; exact .inl ⟨rfl, this _ (by omega) (by omega)⟩
  | some j => rw [hd] at this; exact .inr ⟨j, rfl, by omega, this.2.2.1, fun i hi => this.2.2.2 i (by omega) hi⟩
end Go.Proofs.Ytjimphlkhjmaiaa.sw
namespace Go.Proofs.Ytjimphlkhjmaiaa.sw
open Go.GE
set_option linter.unusedVariables false
set_option linter.unusedSimpArgs false
set_option linter.unusedSectionVars false
set_option maxRecDepth 1000000
set_option maxHeartbeats 4000000
/-- the first parts of a row of codes, and what follows them -/
def tkS : Nat → Code → Code
  | 0, _ => .skip
  | n + 1, .seq a b => .seq a (tkS n b)
  | _ + 1, c => c
def dpS : Nat → Code → Code
  | 0, c => c
  | n + 1, .seq _ b => dpS n b
  | _ + 1, _ => .skip
theorem thenS_assoc {r : Res} {f g : St → Res} : thenS (thenS r f) g = thenS r fun st => thenS (f st) g := by
  rcases r with _ | ⟨x, st⟩
  · rfl
  · cases x <;> rfl
theorem thenS_skip {P : Program} {E : Ev} {cx : Cx} {r : Res} : thenS r (codeB P E cx .skip) = r := by
  rcases r with _ | ⟨x, st⟩
  · rfl
  · cases x <;> rfl
theorem cut_code {P : Program} {E : Ev} {cx : Cx} : ∀ (n : Nat) (c : Code) (st : St), codeB P E cx c st = thenS (codeB P E cx (tkS n c) st) (codeB P E cx (dpS n c)) := by
  intro n
  induction n with
  | zero => intro c st; rfl
  | succ n ih =>
    intro c st
    cases c with
    | seq a b =>
      show codeB P E cx (.seq a b) st = thenS (codeB P E cx (.seq a (tkS n b)) st) (codeB P E cx (dpS n b))
      rw [GE.seq_step (a := a) (b := b) rfl, GE.seq_step (a := a) (b := tkS n b) rfl, thenS_assoc]
      congr 1
      funext st'
      exact ih b st'
    | _ => exact thenS_skip.symm
abbrev lmB (B C : Nat) : Blk := .cells [.int .u64 (B : Int), uv C] 1 true true
abbrev st9 (B C n k r : Nat) : St := ⟨[(5, iv k), (27, iv k), (26, iv r), (25, iv n), (24, uv n), (4, .bool false), (3, pp 0), (0, uv n), (1, lpV B C)], [lmB B C], []⟩
abbrev sf9 (B C k : Nat) (R : List Bool) : St := ⟨[(129, .bool false), (128, iv k), (127, .bool false), (126, rwV R), (125, rwV R), (3, pp 0), (5, iv k), (6, rwV R), (13, rwV R)], [lmB B C], []⟩
theorem dp9 : dpS 10 n9_4 = n9_151 := by kernel_rfl
/-- some rounds of a loop -/
def rnds (P : Program) (E : Ev) (cx : Cx) (a : Code) (K : Kp) : Nat → St → Option St
  | 0, st => some st
  | n + 1, st => match codeB P E cx a st with
    | some (.normal, st') => match normK cx.base K st' with
      | some st0 => rnds P E cx a K n st0
      | none => none
    | _ => none
theorem rnds_ok {P : Program} {T : Tab} {N : Nat} {cx : Cx} {x a : Code} {K : Kp} (h : x = .loop a) (hk : (L P T).kp cx.fn (4 * rid a + 3) = some K) : ∀ (m : Nat) (st st' : St), rnds P (evT P T N) cx a K m st = some st' → lpB P (L P T) cx x a st = lpB P (L P T) cx x a st' := by
  intro m
  induction m with
  | zero => intro st st' e; cases e; rfl
  | succ m ih =>
    intro st st' e
    simp only [rnds] at e
    split at e
    · rename_i s1 h1
      split at e
      · rename_i s2 h2
        rw [lpB_eq, mono_codeB (L_le N) _ _ _ _ h1, roundC_normal, lpB_again h hk]
        simp only [headS, h2]
        exact ih _ _ e
      · cases e
    · cases e
theorem dp9b : dpS 9 n9_4 = n9_105 := by kernel_rfl
abbrev R3 : List Bool := [false, false, false, true, false, true, true, true]
abbrev sl9 (B C x : Nat) : St := ⟨[(3, pp 0), (5, iv 3), (6, rwV R3), (17, iv x)], [lmB B C], []⟩
abbrev sg9 (B C k : Nat) (R : List Bool) : St := ⟨[(127, .bool false), (126, rwV R), (125, rwV R), (3, pp 0), (5, iv k), (6, rwV R), (13, rwV R)], [lmB B C], []⟩
end Go.Proofs.Ytjimphlkhjmaiaa.sw
namespace Go.Proofs.Ytjimphlkhjmaiaa.sw
open Go.GE
set_option linter.unusedVariables false
set_option maxRecDepth 1000000
set_option maxHeartbeats 4000000
theorem mid9_4 (B C n : Nat) : codeB Try.prog (evT Try.prog (wk.wtab.keep kpT) 1000000) ⟨9, 197, 0, none⟩ (tkS 10 n9_4) (st9 B C n 4 3) = some (.normal, sf9 B C 4 [false, false, false, false, true, false, false, true, true, false, true, false, true, true, true, true]) := by kernel_rfl
theorem mid9_5 (B C n : Nat) : codeB Try.prog (evT Try.prog (wk.wtab.keep kpT) 1000000) ⟨9, 197, 0, none⟩ (tkS 10 n9_4) (st9 B C n 5 4) = some (.normal, sf9 B C 5 [false, false, false, false, false, true, false, false, false, true, true, false, false, true, false, true, false, false, true, true, true, false, true, false, true, true, false, true, true, true, true, true]) := by kernel_rfl
theorem mid9_6 (B C n : Nat) : codeB Try.prog (evT Try.prog (wk.wtab.keep kpT) 1000000) ⟨9, 197, 0, none⟩ (tkS 10 n9_4) (st9 B C n 6 5) = some (.normal, sf9 B C 6 [false, false, false, false, false, false, true, false, false, false, false, true, true, false, false, false, true, false, true, false, false, false, true, true, true, false, false, true, false, false, true, false, true, true, false, false, true, true, false, true, false, false, true, true, true, true, false, true, false, true, false, true, true, true, false, true, true, false, true, true, true, true, true, true]) := by kernel_rfl
theorem mid9_1 (B C n : Nat) : codeB Try.prog (evT Try.prog (wk.wtab.keep kpT) 1000000) ⟨9, 197, 0, none⟩ (tkS 10 n9_4) (st9 B C n 1 0) = some (.normal, ⟨[(3, pp 0)], [lmB B C], []⟩) := by kernel_rfl
theorem mid9_2 (B C n : Nat) : codeB Try.prog (evT Try.prog (wk.wtab.keep kpT) 1000000) ⟨9, 197, 0, none⟩ (tkS 10 n9_4) (st9 B C n 2 1) = some (.normal, ⟨[(3, pp 0)], [lmB B C], []⟩) := by kernel_rfl
theorem mid9_3a (B C n : Nat) : codeB Try.prog (evT Try.prog (wk.wtab.keep kpT) 1000000) ⟨9, 197, 0, none⟩ (tkS 9 n9_4) (st9 B C n 3 2) = some (.normal, sg9 B C 3 R3) := by kernel_rfl
end Go.Proofs.Ytjimphlkhjmaiaa.sw
namespace Go.Proofs.Ytjimphlkhjmaiaa.sw
open Go.GE
set_option linter.unusedVariables false
set_option maxRecDepth 1000000
set_option maxHeartbeats 4000000
theorem ch9_0 (B C : Nat) : rnds Try.prog (evT Try.prog (wk.wtab.keep kpT) 1000000) ⟨9, 197, 0, none⟩ n9_113 ⟨[3, 5, 6, 17], []⟩ 16 (sl9 B C 0) = some (sl9 B C 16) := by kernel_rfl
theorem ch9_16 (B C : Nat) : rnds Try.prog (evT Try.prog (wk.wtab.keep kpT) 1000000) ⟨9, 197, 0, none⟩ n9_113 ⟨[3, 5, 6, 17], []⟩ 16 (sl9 B C 16) = some (sl9 B C 32) := by kernel_rfl
theorem ch9_32 (B C : Nat) : rnds Try.prog (evT Try.prog (wk.wtab.keep kpT) 1000000) ⟨9, 197, 0, none⟩ n9_113 ⟨[3, 5, 6, 17], []⟩ 16 (sl9 B C 32) = some (sl9 B C 48) := by kernel_rfl
theorem ch9_48 (B C : Nat) : rnds Try.prog (evT Try.prog (wk.wtab.keep kpT) 1000000) ⟨9, 197, 0, none⟩ n9_113 ⟨[3, 5, 6, 17], []⟩ 16 (sl9 B C 48) = some (sl9 B C 64) := by kernel_rfl
theorem ch9_64 (B C : Nat) : rnds Try.prog (evT Try.prog (wk.wtab.keep kpT) 1000000) ⟨9, 197, 0, none⟩ n9_113 ⟨[3, 5, 6, 17], []⟩ 16 (sl9 B C 64) = some (sl9 B C 80) := by kernel_rfl
theorem ch9_80 (B C : Nat) : rnds Try.prog (evT Try.prog (wk.wtab.keep kpT) 1000000) ⟨9, 197, 0, none⟩ n9_113 ⟨[3, 5, 6, 17], []⟩ 16 (sl9 B C 80) = some (sl9 B C 96) := by kernel_rfl
theorem ch9_96 (B C : Nat) : rnds Try.prog (evT Try.prog (wk.wtab.keep kpT) 1000000) ⟨9, 197, 0, none⟩ n9_113 ⟨[3, 5, 6, 17], []⟩ 16 (sl9 B C 96) = some (sl9 B C 112) := by kernel_rfl
theorem ch9_112 (B C : Nat) : rnds Try.prog (evT Try.prog (wk.wtab.keep kpT) 1000000) ⟨9, 197, 0, none⟩ n9_113 ⟨[3, 5, 6, 17], []⟩ 16 (sl9 B C 112) = some (sl9 B C 128) := by kernel_rfl
theorem ch9_128 (B C : Nat) : rnds Try.prog (evT Try.prog (wk.wtab.keep kpT) 1000000) ⟨9, 197, 0, none⟩ n9_113 ⟨[3, 5, 6, 17], []⟩ 16 (sl9 B C 128) = some (sl9 B C 144) := by kernel_rfl
theorem ch9_144 (B C : Nat) : rnds Try.prog (evT Try.prog (wk.wtab.keep kpT) 1000000) ⟨9, 197, 0, none⟩ n9_113 ⟨[3, 5, 6, 17], []⟩ 16 (sl9 B C 144) = some (sl9 B C 160) := by kernel_rfl
theorem ch9_160 (B C : Nat) : rnds Try.prog (evT Try.prog (wk.wtab.keep kpT) 1000000) ⟨9, 197, 0, none⟩ n9_113 ⟨[3, 5, 6, 17], []⟩ 16 (sl9 B C 160) = some (sl9 B C 176) := by kernel_rfl
theorem ch9_176 (B C : Nat) : rnds Try.prog (evT Try.prog (wk.wtab.keep kpT) 1000000) ⟨9, 197, 0, none⟩ n9_113 ⟨[3, 5, 6, 17], []⟩ 16 (sl9 B C 176) = some (sl9 B C 192) := by kernel_rfl
theorem ch9_192 (B C : Nat) : rnds Try.prog (evT Try.prog (wk.wtab.keep kpT) 1000000) ⟨9, 197, 0, none⟩ n9_113 ⟨[3, 5, 6, 17], []⟩ 16 (sl9 B C 192) = some (sl9 B C 208) := by kernel_rfl
theorem ch9_208 (B C : Nat) : rnds Try.prog (evT Try.prog (wk.wtab.keep kpT) 1000000) ⟨9, 197, 0, none⟩ n9_113 ⟨[3, 5, 6, 17], []⟩ 16 (sl9 B C 208) = some (sl9 B C 224) := by kernel_rfl
theorem ch9_224 (B C : Nat) : rnds Try.prog (evT Try.prog (wk.wtab.keep kpT) 1000000) ⟨9, 197, 0, none⟩ n9_113 ⟨[3, 5, 6, 17], []⟩ 16 (sl9 B C 224) = some (sl9 B C 240) := by kernel_rfl
theorem ch9_240 (B C : Nat) : rnds Try.prog (evT Try.prog (wk.wtab.keep kpT) 1000000) ⟨9, 197, 0, none⟩ n9_113 ⟨[3, 5, 6, 17], []⟩ 16 (sl9 B C 240) = some (sl9 B C 256) := by kernel_rfl
end Go.Proofs.Ytjimphlkhjmaiaa.sw
namespace Go.Proofs.Ytjimphlkhjmaiaa.sw
open Go.GE
set_option linter.unusedVariables false
set_option linter.unusedSimpArgs false
set_option linter.unusedSectionVars false
set_option maxRecDepth 100000
set_option maxHeartbeats 4000000
attribute [local simp] runOps_nil runOps_cons runOpsF_nil runOpsF_cons fstS_some fstF_some opStep_eq want_none oStep_true oStep_false fin_pure fin_read fin_alloc fin_write storeB wrN cellV addWr o_move o_assign o_pick o_alloc o_box o_load o_store o_nilCheck o_bin o_un o_extract o_callV o_callB o_callI callV_f callV_y callV_fc o_makeFunc partsA Instr.fill builtin_len builtin_max2 bin_add bin_sub bin_mul bin_quo bin_rem bin_lss bin_leq bin_gtr bin_geq bin_eql bin_neq un_neg un_not bin_shr bin_shl wrap_u64_id opd opds optAll putO nbeq nblt constOk isC ops sub cl cr co bodyOf thenS_normal thenS_ret thenS_exit thenS_goto afterN_normal afterN_ret afterN_exit afterN_goto condS_true condS_false blockS_normal blockS_ret blockS_exit blockS_goto headS normS normK_eq fixS_nil fixS_cons fix1 fixV emptyB keepO_nil keepO_cons roundC_normal roundC_exit roundC_ret roundC_goto sweep_eq sweepD rnm pickR pickW rootsB ptrT renT ptrFn renFn ptrB_flat ptrB_non renB_flat renB_non plainS_some drawS_some fpsOk disj unord range' dropTo enumT undef wrap_i64_id Value.cells mkCells ptrTo scal cellsAt rdN endS_ret resultsA Option.bind_some tupV finish reachN dep ptrL_eq ptrL renL_eq renL ptrV_bool ptrV_int ptrV_string ptrV_nilFunc ptrV_nilIface ptrV_nilPtr ptrV_ptr ptrV_nilSl ptrV_sl ptrV_iface ptrV_agg ptrV_tuple ptrV_func renV_bool renV_int renV_string renV_nilFunc renV_nilIface renV_nilPtr renV_ptr renV_nilSl renV_sl renV_iface renV_agg renV_tuple renV_func gotoS_goto gotoS_normal gotoS_exit gotoS_ret skip_seq sliceE bnd bndHi intOf optOpd keepT_nil keepT_cons keepC_t keepC_f lk_nil lk_cons lkC_t lkC_f has_nil has_cons hasC_t hasC_f rep_nil rep_cons repC_t repC_f put_eq putC_t putC_f mem_nil mem_cons memC_t memC_f idx_nil idx_cons idxC_t idxC_f reach_nil reachP_cons reachQ_t reachQ_f ptrB_dead renB_dead ins_eq
attribute [local simp] n9_1s n9_3s n9_5s n9_8s n9_11s n9_12s n9_10s n9_13s n9_9s n9_7s n9_15s n9_18s n9_21s n9_22s n9_20s n9_23s n9_19s n9_17s n9_25s n9_28s n9_33s n9_35s n9_36s n9_34s n9_32s n9_40s n9_43s n9_46s n9_47s n9_45s n9_48s n9_44s n9_42s n9_50s n9_52s n9_53s n9_51s n9_49s n9_41s n9_39s n9_38s n9_54s n9_37s n9_31s n9_30s n9_30g n9_29s n9_27s n9_56s n9_59s n9_63s n9_66s n9_67s n9_65s n9_71s n9_74s n9_78s n9_81s n9_82s n9_80s n9_86s n9_88s n9_90s n9_91s n9_89s n9_87s n9_85s n9_84s n9_92s n9_83s n9_79s n9_77s n9_76s n9_76g n9_75s n9_73s n9_94s n9_95s n9_93s n9_72s n9_70s n9_69s n9_96s n9_68s n9_64s n9_62s n9_61s n9_61g n9_60s n9_58s n9_99s n9_102s n9_103s n9_101s n9_104s n9_100s n9_98s n9_107s n9_110s n9_115s n9_117s n9_118s n9_116s n9_114s n9_122s n9_125s n9_129s n9_132s n9_133s n9_131s n9_137s n9_138s n9_136s n9_135s n9_139s n9_134s n9_130s n9_128s n9_127s n9_127g n9_126s n9_124s n9_141s n9_143s n9_146s n9_147s n9_145s n9_148s n9_144s n9_142s n9_140s n9_123s n9_121s n9_120s n9_149s n9_119s n9_113s n9_112s n9_112g n9_111s n9_109s n9_150s n9_108s n9_106s n9_152s n9_154s n9_156s n9_157s n9_155s n9_153s n9_151s n9_105s n9_97s n9_57s n9_55s n9_26s n9_24s n9_16s n9_14s n9_6s n9_4s n9_2s n9_0s Try.f9
theorem pig : ∀ (m n : Nat) (f : Nat → Nat), (∀ i, i < n → f i < m) → (∀ i j, i < n → j < n → f i = f j → i = j) → n ≤ m := by
  intro m
  induction m with
  | zero => intro n f h _; cases n with
    | zero => exact Nat.le_refl _
    | succ n => exact absurd (h 0 (by omega)) (by omega)
  | succ m ih =>
    intro n f h inj
    cases n with
    | zero => omega
    | succ n =>
      have := ih n (fun i => if f i = m then f n else f i) (fun i hi => ?_) (fun i j hi hj e => ?_)
      · omega
      · have h1 := h i (by omega)
        have h2 := h n (by omega)
        show (if f i = m then f n else f i) < m
        split
        · rename_i e
          have : f n ≠ m := fun e2 => by have := inj i n (by omega) (by omega) (by rw [e, e2]); omega
          omega
        · omega
      · have g1 := inj i j (by omega) (by omega)
        have g2 := inj i n (by omega) (by omega)
        have g3 := inj j n (by omega) (by omega)
        have e : (if f i = m then f n else f i) = (if f j = m then f n else f j) := e
        split at e <;> split at e
        · exact g1 (by omega)
        · have := g3 (by omega); omega
        · have := g2 (by omega); omega
        · exact g1 e
/-- a row as a number -/
def numB : List Bool → Nat
  | [] => 0
  | b :: l => (cond b 1 0) + 2 * numB l
theorem num_lt : ∀ {l : List Bool}, numB l < 2 ^ l.length := by
  intro l
  induction l with
  | nil => simp [numB]
  | cons b l ih => simp only [numB, List.length_cons, Nat.pow_succ]; cases b <;> simp only [cond_true, cond_false] <;> omega
theorem num_inj : ∀ {a b : List Bool}, a.length = b.length → numB a = numB b → a = b := by
  intro a
  induction a with
  | nil => intro b h _; cases b with
    | nil => rfl
    | cons => simp at h
  | cons x a ih => intro b h e; cases b with
    | nil => simp at h
    | cons y b =>
      simp only [List.length_cons, Nat.add_right_cancel_iff] at h
      simp only [numB] at e
      cases x <;> cases y <;> simp only [cond_true, cond_false] at e
      · rw [ih h (by omega)]
      · omega
      · omega
      · rw [ih h (by omega)]
theorem D_pow {l : List Bool} {k : Nat} (h : D l k) : l.length ≤ 2 ^ k := by
  refine pig (2 ^ k) l.length (fun i => numB (winB l k i)) (fun i hi => ?_) fun i j hi hj e => ?_
  · have := @num_lt (winB l k i)
    rwa [win_len hi] at this
  · exact h i j hi hj (num_inj (by rw [win_len hi, win_len hj]) e)
theorem end9 (B C : Nat) (hB : B < 2 ^ 64) (hC : C < 256) (k : Nat) (R : List Bool) : endS Try.prog [.tmp 4] 0 (codeB Try.prog LL ⟨9, 197, 0, none⟩ n9_151 (sf9 B C k R)) = some ⟨.bool true, [], []⟩ ∧
    endS Try.prog [.tmp 4] 0 (codeB Try.prog LL ⟨9, 197, 0, none⟩ n9_151 ⟨[(3, pp 0)], [lmB B C], []⟩) = some ⟨.bool true, [], []⟩ := by
  have c1 := fun h => k33 B C hB hC h
  obtain ⟨l, hl⟩ : ∃ l, bitL B (1 + C % 64) = l := ⟨_, rfl⟩
  have hn : l.length = 1 + C % 64 := by rw [← hl, bitL_len]
  have h1 : 1 ≤ l.length := by omega
  have h64 : l.length ≤ 64 := by omega
  rw [hl] at c1
  clear hl hn
  have c2 := fun h => k19 l h1 h64 h
  have a2 := fun h => @lenA_st h (markU l)
  rw [mark_len] at a2
  rcases clr_ok l with ⟨e, _⟩ | ⟨j, e, hj, hd, _⟩
  · rw [e] at c2
    simp only [Int.natCast_zero, Int.cast_ofNat_Int] at c2
    constructor
    · unfold sf9
      generalize rwV R = RR
      simp (maxSteps := 1000000) (disch := first | omega | decide | assumption | simp [scal]) [o_convI cv_5_3, ap_26, builtin_append ni_26, lenA_sl lk_26, o_indexAddrS es_26, loadA_eq ia_9, sz_9, lenA_sl lk_51, o_convI cv_3_5, o_indexAddrS es_51, sz_5, loadA_eq ia_46, loadA_eq ia_5, want_some q9_8g2, want_some q9_8g9, want_some q9_8g14, want_some q9_18g2, want_some q9_88g5, want_some q9_88g8, want_some q9_143g3, want_some q9_156g2, want_some q9_156g5, want_some q9_156g9, want_some q9_156g12, want_some q9_156g21, c1, c2, a2, k14]
    · simp (maxSteps := 1000000) (disch := first | omega | decide | assumption | simp [scal]) [o_convI cv_5_3, ap_26, builtin_append ni_26, lenA_sl lk_26, o_indexAddrS es_26, loadA_eq ia_9, sz_9, lenA_sl lk_51, o_convI cv_3_5, o_indexAddrS es_51, sz_5, loadA_eq ia_46, loadA_eq ia_5, want_some q9_8g2, want_some q9_8g9, want_some q9_8g14, want_some q9_18g2, want_some q9_88g5, want_some q9_88g8, want_some q9_143g3, want_some q9_156g2, want_some q9_156g5, want_some q9_156g9, want_some q9_156g12, want_some q9_156g21, c1, c2, a2, k14]
  · rw [e] at c2
    simp only [Int.natCast_zero, Int.cast_ofNat_Int] at c2
    have hp := D_pow (difB_iff.1 hd)
    have e0 : (0 : Int) ≤ (j : Int) := by omega
    by_cases h6 : 6 ≤ j
    · have e6 : (6 : Int) ≤ (j : Int) := by omega
      constructor
      · unfold sf9
        generalize rwV R = RR
        simp (maxSteps := 1000000) (disch := first | omega | decide | assumption | simp [scal]) [o_convI cv_5_3, ap_26, builtin_append ni_26, lenA_sl lk_26, o_indexAddrS es_26, loadA_eq ia_9, sz_9, lenA_sl lk_51, o_convI cv_3_5, o_indexAddrS es_51, sz_5, loadA_eq ia_46, loadA_eq ia_5, want_some q9_8g2, want_some q9_8g9, want_some q9_8g14, want_some q9_18g2, want_some q9_88g5, want_some q9_88g8, want_some q9_143g3, want_some q9_156g2, want_some q9_156g5, want_some q9_156g9, want_some q9_156g12, want_some q9_156g21, c1, c2, a2, k14, e0, e6, h6]
      · simp (maxSteps := 1000000) (disch := first | omega | decide | assumption | simp [scal]) [o_convI cv_5_3, ap_26, builtin_append ni_26, lenA_sl lk_26, o_indexAddrS es_26, loadA_eq ia_9, sz_9, lenA_sl lk_51, o_convI cv_3_5, o_indexAddrS es_51, sz_5, loadA_eq ia_46, loadA_eq ia_5, want_some q9_8g2, want_some q9_8g9, want_some q9_8g14, want_some q9_18g2, want_some q9_88g5, want_some q9_88g8, want_some q9_143g3, want_some q9_156g2, want_some q9_156g5, want_some q9_156g9, want_some q9_156g12, want_some q9_156g21, c1, c2, a2, k14, e0, e6, h6]
    · have e6 : ¬ (6 : Int) ≤ (j : Int) := by omega
      have sh := @shl_powi j (by omega)
      have e7 : ((l.length : Nat) : Int) ≤ ((2 ^ j : Nat) : Int) := by omega
      generalize 2 ^ j = P at *
      constructor
      · unfold sf9
        generalize rwV R = RR
        simp (maxSteps := 1000000) (disch := first | omega | decide | assumption | simp [scal]) [o_convI cv_5_3, ap_26, builtin_append ni_26, lenA_sl lk_26, o_indexAddrS es_26, loadA_eq ia_9, sz_9, lenA_sl lk_51, o_convI cv_3_5, o_indexAddrS es_51, sz_5, loadA_eq ia_46, loadA_eq ia_5, want_some q9_8g2, want_some q9_8g9, want_some q9_8g14, want_some q9_18g2, want_some q9_88g5, want_some q9_88g8, want_some q9_143g3, want_some q9_156g2, want_some q9_156g5, want_some q9_156g9, want_some q9_156g12, want_some q9_156g21, c1, c2, a2, k14, e0, e6, h6, sh, e7, hp]
      · simp (maxSteps := 1000000) (disch := first | omega | decide | assumption | simp [scal]) [o_convI cv_5_3, ap_26, builtin_append ni_26, lenA_sl lk_26, o_indexAddrS es_26, loadA_eq ia_9, sz_9, lenA_sl lk_51, o_convI cv_3_5, o_indexAddrS es_51, sz_5, loadA_eq ia_46, loadA_eq ia_5, want_some q9_8g2, want_some q9_8g9, want_some q9_8g14, want_some q9_18g2, want_some q9_88g5, want_some q9_88g8, want_some q9_143g3, want_some q9_156g2, want_some q9_156g5, want_some q9_156g9, want_some q9_156g12, want_some q9_156g21, c1, c2, a2, k14, e0, e6, h6, sh, e7, hp]
theorem lp9 (B C : Nat) : lpB Try.prog LL ⟨9, 197, 0, none⟩ n9_112 n9_113 (sl9 B C 0) = some (.exit 6, ⟨[(3, pp 0)], [lmB B C], []⟩) := by
  have hx : n9_112 = .loop n9_113 := by kernel_rfl
  have st := fun m x y h => rnds_ok (N := 1000000) (cx := ⟨9, 197, 0, none⟩) hx (n9_112k 0 none) m (sl9 B C x) (sl9 B C y) h
  rw [st 16 0 16 (ch9_0 B C)]
  rw [st 16 16 32 (ch9_16 B C)]
  rw [st 16 32 48 (ch9_32 B C)]
  rw [st 16 48 64 (ch9_48 B C)]
  rw [st 16 64 80 (ch9_64 B C)]
  rw [st 16 80 96 (ch9_80 B C)]
  rw [st 16 96 112 (ch9_96 B C)]
  rw [st 16 112 128 (ch9_112 B C)]
  rw [st 16 128 144 (ch9_128 B C)]
  rw [st 16 144 160 (ch9_144 B C)]
  rw [st 16 160 176 (ch9_160 B C)]
  rw [st 16 176 192 (ch9_176 B C)]
  rw [st 16 192 208 (ch9_192 B C)]
  rw [st 16 208 224 (ch9_208 B C)]
  rw [st 16 224 240 (ch9_224 B C)]
  rw [st 16 240 256 (ch9_240 B C)]
  clear st hx
  unfold sl9
  generalize rwV R3 = RR
  rw [lpB_eq]
  simp (maxSteps := 1000000) (disch := first | omega | decide | assumption | simp [scal]) [o_convI cv_5_3, ap_26, builtin_append ni_26, lenA_sl lk_26, o_indexAddrS es_26, loadA_eq ia_9, sz_9, lenA_sl lk_51, o_convI cv_3_5, o_indexAddrS es_51, sz_5, loadA_eq ia_46, loadA_eq ia_5, want_some q9_8g2, want_some q9_8g9, want_some q9_8g14, want_some q9_18g2, want_some q9_88g5, want_some q9_88g8, want_some q9_143g3, want_some q9_156g2, want_some q9_156g5, want_some q9_156g9, want_some q9_156g12, want_some q9_156g21]
theorem c9 (n B C : Nat) (hn : n < 256) (hB : B < 2 ^ 64) (hC : C < 256) : LL.run 9 [uv n, lpV B C] [] = some ⟨.bool true, [], []⟩ := by
  have ht : Int.tmod (n : Int) 6 = ((n % 6 : Nat) : Int) := rfl
  have w1 := wrap_nn (a := n) (by omega)
  have hr : n % 6 < 6 := Nat.mod_lt _ (by decide)
  have w2 : IntKind.i64.wrap (1 + ((n % 6 : Nat) : Int)) = ((n % 6 + 1 : Nat) : Int) := by rw [wrap_i64_id (by omega) (by omega)]; omega
  refine (L_run_eq rfl).trans ?_
  have pre : runB Try.prog LL 9 [uv n, lpV B C] [] = endS Try.prog [.tmp 4] 0 (codeB Try.prog LL ⟨9, 197, 0, none⟩ n9_4 (st9 B C n (n % 6 + 1) (n % 6))) := by
    generalize n % 6 = r at *
    unfold st9
    rw [run9 _ _ _ (by simp)]
    simp (maxSteps := 1000000) (disch := first | omega | decide | assumption | simp [scal]) [o_convI cv_5_3, ap_26, builtin_append ni_26, lenA_sl lk_26, o_indexAddrS es_26, loadA_eq ia_9, sz_9, lenA_sl lk_51, o_convI cv_3_5, o_indexAddrS es_51, sz_5, loadA_eq ia_46, loadA_eq ia_5, want_some q9_8g2, want_some q9_8g9, want_some q9_8g14, want_some q9_18g2, want_some q9_88g5, want_some q9_88g8, want_some q9_143g3, want_some q9_156g2, want_some q9_156g5, want_some q9_156g9, want_some q9_156g12, want_some q9_156g21, -n9_4s, ht, w1, w2]
  rw [pre, cut_code 10, dp9]
  have hm := fun c st r h => mono_codeB (P := Try.prog) (L_le (P := Try.prog) (T := wk.wtab.keep kpT) 1000000) c st r h
  have en := fun k R => end9 B C hB hC k R
  rcases (show n % 6 = 0 ∨ n % 6 = 1 ∨ n % 6 = 2 ∨ n % 6 = 3 ∨ n % 6 = 4 ∨ n % 6 = 5 by omega) with h | h | h | h | h | h <;> rw [h]
  · rw [mono_codeB (L_le 1000000) _ _ _ _ (mid9_1 B C n)]
    exact (en 0 []).2
  · rw [mono_codeB (L_le 1000000) _ _ _ _ (mid9_2 B C n)]
    exact (en 0 []).2
  · rw [← dp9, ← cut_code 10, cut_code 9, dp9b, mono_codeB (L_le 1000000) _ _ _ _ (mid9_3a B C n)]
    have lp := lp9 B C
    have e := (en 0 []).2
    unfold sg9 sl9 at *
    simp only [Int.natCast_zero] at lp
    unfold rwV st at *
    generalize (⟨(markU R3).toArray⟩ : ByteArray) = z at *
    simp (maxSteps := 1000000) (disch := first | omega | decide | assumption | simp [scal]) [o_convI cv_5_3, ap_26, builtin_append ni_26, lenA_sl lk_26, o_indexAddrS es_26, loadA_eq ia_9, sz_9, lenA_sl lk_51, o_convI cv_3_5, o_indexAddrS es_51, sz_5, loadA_eq ia_46, loadA_eq ia_5, want_some q9_8g2, want_some q9_8g9, want_some q9_8g14, want_some q9_18g2, want_some q9_88g5, want_some q9_88g8, want_some q9_143g3, want_some q9_156g2, want_some q9_156g5, want_some q9_156g9, want_some q9_156g12, want_some q9_156g21, -n9_151s, lp, e]
  · rw [mono_codeB (L_le 1000000) _ _ _ _ (mid9_4 B C n)]
    exact (en _ _).1
  · rw [mono_codeB (L_le 1000000) _ _ _ _ (mid9_5 B C n)]
    exact (en _ _).1
  · rw [mono_codeB (L_le 1000000) _ _ _ _ (mid9_6 B C n)]
    exact (en _ _).1
end Go.Proofs.Ytjimphlkhjmaiaa.sw
