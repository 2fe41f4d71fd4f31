/-
  Contracts of functions of the program at the limit evaluator. No condition.
-/
import Derived.Test.YtjimphlkhjmaiaaSEN
import Derived.Laws.RangeString
import Derived.Lib.Repeat
import Derived.Lib.Strings
import Derived.Test.YtjimphlkhjmaiaaE40
namespace Go.Proofs.Ytjimphlkhjmaiaa.sw
open Go.GE
set_option linter.unusedVariables false
set_option linter.unusedSimpArgs false
set_option linter.unusedSectionVars false
set_option maxRecDepth 100000
set_option maxHeartbeats 4000000
theorem k14 (h : List Blk) : callH LL 14 [] h = some ⟨.bool true, h, [], []⟩ := callH_plain (L_tab rfl) rfl rfl
abbrev uv (n : Nat) : Value := .int .u8 (n : Int)
abbrev sl (b off n c : Nat) : Value := .slice (some ⟨b, off, none⟩) n c
abbrev pp (b : Nat) : Value := .pointer (some ⟨b, 0, none⟩)
theorem wrap_nn {a : Nat} (h : a < 2 ^ 63) : IntKind.i64.wrap (a : Int) = a := wrap_i64_id (by omega) (by omega)
end Go.Proofs.Ytjimphlkhjmaiaa.sw
namespace Go.Proofs.Ytjimphlkhjmaiaa.sw
open Go.GE
set_option linter.unusedVariables false
set_option linter.unusedSimpArgs false
set_option linter.unusedSectionVars false
set_option maxRecDepth 100000
set_option maxHeartbeats 4000000
abbrev st (l : List UInt8) : Value := .string ⟨l.toArray⟩
theorem bytes_mk (l : List UInt8) : (⟨l.toArray⟩ : ByteArray).toList = l := by rw [Lib.toList_data]
theorem bin_eqls {t : TypeId} {c : Bool} {a b : List UInt8} : binA Try.prog .eql t c (st a) (st b) = some (.bool (decide (a = b))) := by
  simp only [binA, Op.stringOp, bytes_mk, pureOf, pure]
  by_cases h : a = b <;> simp [h]
theorem st_size (l : List UInt8) : (⟨l.toArray⟩ : ByteArray).size = l.length := rfl
theorem bin_adds {t : TypeId} {c : Bool} {a b : List UInt8} (h : a.length + b.length ≤ 9223372036854775807) : binA Try.prog .add t c (st a) (st b) = some (st (a ++ b)) := by
  have : ¬ (((a.length + b.length : Nat) : Int) > IntKind.i64.max) := by
    rw [show IntKind.i64.max = (2 ^ 63 : Int) - 1 from rfl]; omega
  simp only [binA, Op.stringOp, st_size, if_neg this, pureOf, pure]
  congr 2
section
open Go.ChangeShapes Go.WideShapes Go.RowKit
variable {H : Type} {enc : TypeId × Value → H} {W : World} {base b0 : Nat} {v : Value} {d : DataW H} {p : List MemPlace}
theorem open_u8 (hv : Value.okWide Try.prog W .any b0 5 v) (hd : DataW.Trod enc Try.prog W base (fun _ => true) true 5 v d p) : ∃ n : Nat, v = uv n ∧ n < 256 := by
  obtain ⟨y, rfl, _, _, h⟩ := open_int (show Try.prog.underlying 5 = some (.int .u8) from by kernel_rfl) hv hd
  obtain ⟨n, rfl, hn⟩ := nat_of (b := 255) (u8_wf h)
  exact ⟨n, rfl, hn⟩
end
end Go.Proofs.Ytjimphlkhjmaiaa.sw
namespace Go.Proofs.Ytjimphlkhjmaiaa.sw
open Go.GE
set_option linter.unusedVariables false
set_option linter.unusedSimpArgs false
set_option linter.unusedSectionVars false
set_option maxRecDepth 100000
set_option maxHeartbeats 4000000
theorem u9 : Try.prog.underlying 9 = some .string := by kernel_rfl
theorem u5 : Try.prog.underlying 5 = some (.int .u8) := by kernel_rfl
theorem u51 : Try.prog.underlying 51 = some (.slice 5) := by kernel_rfl
theorem ext_st {l : List UInt8} {a b : Nat} : (⟨l.toArray⟩ : ByteArray).extract a b = ⟨((l.drop a).take (b - a)).toArray⟩ := by rw [Lib.extract_eq]
def sliceB (h : List Blk) (s : ByteArray) (lo hi : Option Value) : Option OR :=
  match bnd hi s.size s.size with
  | some hh => match bnd lo hh 0 with
    | some ll => pureR h (.string (s.extract ll hh))
    | none => none
  | none => none
section
variable {σ : Tm} {h : List Blk} {d : Option Nat} {ty : TypeId} {pos : String} {af : Array Edge} {g : Option (Nat × Bool)} {x y z : Operand} {lo hi : Option Operand}
theorem o_sliceT : aop Try.prog LL σ h ⟨d, .slice 9 x lo hi none, ty, pos, af, g⟩ = (match opd σ x, optOpd σ lo, optOpd σ hi with
    | some (.string s), some lo, some hi => sliceB h s lo hi
    | _, _, _ => none) := by
  simp only [aop, u9, show optOpd σ none = some none from rfl]
  rcases opd σ x with _ | v
  · rfl
  cases v with
  | string s =>
    rcases optOpd σ lo with _ | lo'
    · rfl
    rcases optOpd σ hi with _ | hi'
    · rfl
    rfl
  | slice a l c =>
    rcases a with _ | ⟨b, o, _ | _⟩ <;> rcases optOpd σ lo with _ | lo' <;> rcases optOpd σ hi with _ | hi' <;> first | rfl | (cases l <;> cases c <;> rfl)
  | _ => rfl
/-- bytes turned into a string -/
def conS (h : List Blk) (b o n : Nat) : Option OR := match n with
  | 0 => pureR h (.string .empty)
  | _ => match cellsC h b with
    | some cs => match rdN cs o n with
      | some l => (bytesOf l).map fun bs => ⟨.string ⟨bs.toArray⟩, h, [b], []⟩
      | none => none
    | none => none
theorem o_conT : aop Try.prog LL σ h ⟨d, .convert 51 9 x, ty, pos, af, g⟩ = (match opd σ x with
    | some (.slice none 0 0) => pureR h (.string .empty)
    | some (.slice (some ⟨b, o, none⟩) n _) => conS h b o n
    | _ => none) := by
  simp only [aop, u9, u51, u5]
  rcases opd σ x with _ | v
  · rfl
  cases v with
  | slice a l c =>
    rcases a with _ | ⟨b, o, _ | _⟩
    · cases l <;> cases c <;> rfl
    · cases l <;> rfl
    · rfl
  | _ => rfl
theorem o_indexT : aop Try.prog LL σ h ⟨d, .index 9 x y, ty, pos, af, g⟩ = (match opd σ x, opd σ y with
    | some (.string s), some (.int _ k) => if 0 ≤ k then match s[k.toNat]? with
        | some c => pureR h (.int .u8 c.toNat)
        | none => none
      else none
    | _, _ => none) := by
  simp only [aop, u9]
  rcases opd σ x with _ | v
  · rfl
  cases v with
  | string s =>
    rcases opd σ y with _ | w
    · rfl
    cases w <;> rfl
  | _ => rfl
theorem o_rangeT : aop Try.prog LL σ h ⟨d, .range 9 x, ty, pos, af, g⟩ = (match opd σ x with
    | some (.string s) => allocR h (.siter s 0) ptrTo
    | _ => none) := by
  simp only [aop, u9]
  rcases opd σ x with _ | v
  · rfl
  cases v <;> rfl
def nextB (h : List Blk) (b : Nat) : Option OR := match h[b]? with
  | some (.siter s p) => if p < s.size then
      some ⟨.tuple #[.bool true, goInt p, .int .i32 (Utf8.decode s p).1], h.set b (.siter s (p + (Utf8.decode s p).2)), [b], [b]⟩
    else some ⟨.tuple #[.bool false], h, [b], []⟩
  | _ => none
theorem o_nextT : aop Try.prog LL σ h ⟨d, .next x true, ty, pos, af, g⟩ = (match opd σ x with
    | some (.pointer (some ⟨b, 0, none⟩)) => nextB h b
    | _ => none) := rfl
theorem lenA_st {l : List UInt8} : lenA Try.prog h 9 (st l) = some (iv l.length, []) := by
  simp only [lenA, u9]; rfl
end
end Go.Proofs.Ytjimphlkhjmaiaa.sw
namespace Go.Proofs.Ytjimphlkhjmaiaa.sw
open Go.GE
set_option linter.unusedVariables false
set_option linter.unusedSimpArgs false
set_option linter.unusedSectionVars false
set_option maxRecDepth 100000
set_option maxHeartbeats 4000000
attribute [local simp] runOps_nil runOps_cons runOpsF_nil runOpsF_cons fstS_some fstF_some opStep_eq want_none oStep_true oStep_false fin_pure fin_read fin_alloc fin_write storeB wrN cellV addWr o_move o_assign o_pick o_alloc o_box o_load o_store o_nilCheck o_bin o_un o_extract o_callV o_callB o_callI callV_f callV_y callV_fc o_makeFunc partsA Instr.fill builtin_len builtin_max2 bin_add bin_sub bin_mul bin_quo bin_rem bin_lss bin_leq bin_gtr bin_geq bin_eql bin_neq un_neg un_not bin_shr bin_shl wrap_u64_id opd opds optAll putO nbeq nblt constOk isC ops sub cl cr co bodyOf thenS_normal thenS_ret thenS_exit thenS_goto afterN_normal afterN_ret afterN_exit afterN_goto condS_true condS_false blockS_normal blockS_ret blockS_exit blockS_goto headS normS normK_eq fixS_nil fixS_cons fix1 fixV emptyB keepO_nil keepO_cons roundC_normal roundC_exit roundC_ret roundC_goto sweep_eq sweepD rnm pickR pickW rootsB ptrT renT ptrFn renFn ptrB_flat ptrB_non renB_flat renB_non plainS_some drawS_some fpsOk disj unord range' dropTo enumT undef wrap_i64_id Value.cells mkCells ptrTo scal cellsAt rdN endS_ret resultsA Option.bind_some tupV finish reachN dep ptrL_eq ptrL renL_eq renL ptrV_bool ptrV_int ptrV_string ptrV_nilFunc ptrV_nilIface ptrV_nilPtr ptrV_ptr ptrV_nilSl ptrV_sl ptrV_iface ptrV_agg ptrV_tuple ptrV_func renV_bool renV_int renV_string renV_nilFunc renV_nilIface renV_nilPtr renV_ptr renV_nilSl renV_sl renV_iface renV_agg renV_tuple renV_func gotoS_goto gotoS_normal gotoS_exit gotoS_ret skip_seq sliceE bnd bndHi intOf optOpd keepT_nil keepT_cons keepC_t keepC_f lk_nil lk_cons lkC_t lkC_f has_nil has_cons hasC_t hasC_f rep_nil rep_cons repC_t repC_f put_eq putC_t putC_f mem_nil mem_cons memC_t memC_f idx_nil idx_cons idxC_t idxC_f reach_nil reachP_cons reachQ_t reachQ_f ptrB_dead renB_dead ins_eq
attribute [local simp] n35_1s n35_3s n35_4s n35_2s n35_0s Try.f35
def bitU (b : Bool) : UInt8 := cond b 49 48
def markU (l : List Bool) : List UInt8 := l.map bitU
theorem bitU_inj {a b : Bool} (h : bitU a = bitU b) : a = b := by cases a <;> cases b <;> first | rfl | (exact absurd h (by decide))
theorem markU_inj {a b : List Bool} (h : markU a = markU b) : a = b := by
  induction a generalizing b with
  | nil => cases b with
    | nil => rfl
    | cons => simp [markU] at h
  | cons x a ih => cases b with
    | nil => simp [markU] at h
    | cons y b =>
      simp only [markU, List.map_cons, List.cons.injEq] at h
      rw [bitU_inj h.1, ih h.2]
theorem mark_len {l : List Bool} : (markU l).length = l.length := by simp [markU]
theorem mark_app {a b : List Bool} : markU (a ++ b) = markU a ++ markU b := by simp [markU]
theorem mark_drop {l : List Bool} {t : Nat} : (markU l).drop t = markU (l.drop t) := by simp [markU, List.map_drop]
theorem mark_take {l : List Bool} {t : Nat} : (markU l).take t = markU (l.take t) := by simp [markU, List.map_take]
abbrev rwV (l : List Bool) : Value := st (markU l)
/-- the turn of a rim -/
def turnB (l : List Bool) (t : Nat) : List Bool := l.drop t ++ l.take t
theorem k35 (l : List Bool) (t : Nat) (ht : t ≤ l.length) (hl : l.length < 2 ^ 40) (h : List Blk) : callH LL 35 [rwV l, iv t] h = some ⟨rwV (turnB l t), h, [], []⟩ := by
  refine callH_none rfl (fun _ => rfl) (L_run rfl ?_) fun _ => rfl
  have h1 : (t : Int) ≤ (l.length : Int) := by omega
  have h2 : (markU (l.drop t)).length + (markU (l.take t)).length ≤ 9223372036854775807 := by rw [mark_len, mark_len]; simp; omega
  have hd : List.take (l.length - t) (l.drop t) = l.drop t := List.take_of_length_le (by simp)
  have e : rwV (turnB l t) = st (markU (l.drop t) ++ markU (l.take t)) := by unfold rwV turnB; rw [mark_app]
  rw [e, run35 _ _ _ (by simp)]
  simp (maxSteps := 1000000) (disch := first | omega | decide | assumption | simp [scal]) [o_sliceT, sliceB, st_size, mark_len, ext_st, mark_drop, mark_take, hd, @bin_adds _ _ _ _ h2, h1, ht]
end Go.Proofs.Ytjimphlkhjmaiaa.sw
namespace Go.Proofs.Ytjimphlkhjmaiaa.sw
open Go.GE
set_option linter.unusedVariables false
set_option linter.unusedSimpArgs false
set_option linter.unusedSectionVars false
set_option maxRecDepth 100000
set_option maxHeartbeats 4000000
def markV (l : List Bool) : List Value := l.map fun b => uv (cond b 49 48)
/-- the first marks, and zeros behind them -/
def fillV (l : List Bool) (k : Nat) : List Value := markV l ++ List.replicate k (uv 0)
theorem markV_len {l : List Bool} : (markV l).length = l.length := by simp [markV]
theorem fillV_len {l : List Bool} {k : Nat} : (fillV l k).length = l.length + k := by simp [fillV, markV_len]
theorem fillV_set {l : List Bool} {k : Nat} {b : Bool} {v : Value} (hv : v = uv (cond b 49 48)) : (fillV l (k + 1)).set l.length v = fillV (l ++ [b]) k := by
  subst hv
  unfold fillV
  rw [List.set_append_right _ _ (by rw [markV_len]; exact Nat.le_refl _), markV_len, Nat.sub_self, List.replicate_succ, List.set_cons_zero]
  simp [markV]
theorem markV_bytes : ∀ {l : List Bool}, bytesOf (markV l) = some (markU l) := by
  intro l
  induction l with
  | nil => rfl
  | cons b l ih =>
    show (bytesOf (markV l)).map (UInt8.ofNat ((cond b 49 48 : Nat) : Int).toNat :: ·) = some (markU (b :: l))
    rw [ih]
    cases b <;> rfl
theorem conS_mark {h : List Blk} {b n e : Nat} {l : List Bool} {fl ow : Bool} (hb : h[b]? = some (.cells (markV l) e fl ow)) (hn : l.length = n) (h1 : 1 ≤ n) : conS h b 0 n = some ⟨rwV l, h, [b], []⟩ := by
  obtain ⟨m, rfl⟩ : ∃ m, n = m + 1 := ⟨n - 1, by omega⟩
  have hr := rdN_all (markV l) (m + 1) 0 (by rw [markV_len]; omega)
  rw [List.drop_zero] at hr
  simp only [conS, cellsC, hb, hr, markV_bytes, Option.map_some]
/-- the marks of a number, the lowest ones first -/
def bitL (x n : Nat) : List Bool := (List.range n).map fun k => decide (x / 2 ^ k % 2 = 1)
theorem bitL_len {x n : Nat} : (bitL x n).length = n := by simp [bitL]
theorem bitL_succ {x n : Nat} : bitL x (n + 1) = bitL x n ++ [decide (x / 2 ^ n % 2 = 1)] := by simp [bitL, List.range_succ]
theorem mk51 {σ : Tm} {h : List Blk} {d : Option Nat} {ty : TypeId} {pos : String} {af : Array Edge} {g : Option (Nat × Bool)} {x y : Operand} : aop Try.prog LL σ h ⟨d, .makeSlice 51 x y, ty, pos, af, g⟩ = (match opd σ x, opd σ y with
    | some (.int _ n), some (.int _ k) => if 0 ≤ n ∧ n ≤ k ∧ k * 1 ≤ 70368744177664 ∧ k ≤ 70368744177664 then allocR h (.cells (List.replicate k.toNat (uv 0)) 1 true true) fun b => .slice (some ⟨b, 0, none⟩) n.toNat k.toNat else none
    | _, _ => none) := by
  have e1 : Try.prog.underlying 51 = some (.slice 5) := by kernel_rfl
  have e2 : (Try.prog.info? 5).map (fun i => (i.bytes, i.size)) = some (1, 1) := by kernel_rfl
  have e3 : zeroA Try.prog 5 = some (uv 0) := by kernel_rfl
  obtain ⟨i, hi, hp⟩ := Option.map_eq_some_iff.1 e2
  obtain ⟨h8, h1⟩ := Prod.mk.inj hp
  have hfl : ∀ k : Nat, (List.replicate k [uv 0]).flatten = List.replicate k (uv 0) := fun k => List.flatten_replicate_singleton
  simp only [aop, e1, e2, e3, hi, h8, h1]
  cases opd σ x with
  | none => rfl
  | some v =>
    cases v <;> try rfl
    cases opd σ y with
    | none => rfl
    | some w =>
      cases w <;> try rfl
      rename_i k1 n k2 m
      simp only [e3, hi, h8, h1]
      by_cases hc : 0 ≤ n ∧ n ≤ m ∧ m * 1 ≤ 70368744177664 ∧ m ≤ 70368744177664
      · rw [if_pos hc, if_pos ⟨hc.1, hc.2.1, by have := hc.2.2.1; omega, by have := hc.2.2.2; omega, by decide, rfl⟩]
        show allocR h (.cells ((List.replicate m.toNat [uv 0]).flatten) 1 true true) _ = _
        rw [hfl]
      · rw [if_neg hc, if_neg (fun h => hc ⟨h.1, h.2.1, by have := h.2.2.1; omega, by have := h.2.2.2.1; omega⟩)]
def mapS (es : List (List Bool)) : List (Value × Value) := es.map fun l => (rwV l, .bool true)
abbrev mapB (es : List (List Bool)) : Blk := .map (mapS es)
def insS (es : List (List Bool)) (l : List Bool) : List (List Bool) := if l ∈ es then es else es ++ [l]
theorem same_rw {a b : List Bool} : sameK (rwV a) (rwV b) = some (decide (a = b)) := by
  show some ((⟨(markU a).toArray⟩ : ByteArray) == ⟨(markU b).toArray⟩) = _
  rw [beq_toListBytes, bytes_mk, bytes_mk]
  by_cases h : a = b
  · subst h; simp
  · have : ¬ markU a = markU b := fun e => h (markU_inj e)
    simp [h, this]
theorem find_rw {l : List Bool} : ∀ {es : List (List Bool)} {i : Nat}, (l ∈ es ∧ ∃ j, findA (rwV l) (mapS es) i = some (some (i + j, .bool true)) ∧ es[j]? = some l) ∨ (l ∉ es ∧ findA (rwV l) (mapS es) i = some none) := by
  intro es
  induction es with
  | nil => intro i; exact .inr ⟨by simp, rfl⟩
  | cons a es ih =>
    intro i
    simp only [mapS, List.map_cons, findA, same_rw]
    by_cases h : l = a
    · subst h
      left
      refine ⟨by simp, 0, by simp, rfl⟩
    · simp only [h, decide_false]
      rcases ih (i := i + 1) with ⟨h1, j, h2, h3⟩ | ⟨h1, h2⟩
      · left
        refine ⟨by simp [h1], j + 1, ?_, by simpa using h3⟩
        simp only [mapS] at h2
        rw [h2, show i + 1 + j = i + (j + 1) by omega]
      · right
        refine ⟨by simp [h, h1], ?_⟩
        simpa only [mapS] using h2
def updX (P : Program) (t : TypeId) (h : List Blk) (m k v : Option Value) : Option OR := match m, k, v with
    | some m, some k, some v => updA P h t m k v
    | _, _, _ => none
theorem o_mapU {σ : Tm} {h : List Blk} {d : Option Nat} {ty : TypeId} {pos : String} {af : Array Edge} {g : Option (Nat × Bool)} {t : TypeId} {x y z : Operand} : aop Try.prog LL σ h ⟨d, .mapUpdate t x y z, ty, pos, af, g⟩ = updX Try.prog t h (opd σ x) (opd σ y) (opd σ z) := rfl
theorem o_makeMap {σ : Tm} {h : List Blk} {d : Option Nat} {ty : TypeId} {pos : String} {af : Array Edge} {g : Option (Nat × Bool)} {t : TypeId} : aop Try.prog LL σ h ⟨d, .makeMap t none, ty, pos, af, g⟩ = allocR h (.map []) fun b => .map (some b) := rfl
theorem upd80 {h : List Blk} {b : Nat} {es : List (List Bool)} {l : List Bool} (hb : h[b]? = some (mapB es)) : updX Try.prog 80 h (some (.map (some b))) (some (rwV l)) (some (.bool true)) = some ⟨undef, h.set b (mapB (insS es l)), [b], [b]⟩ := by
  have e1 : Try.prog.underlying 80 = some (.map 9 4) := by kernel_rfl
  simp only [updX, updA, e1, u9, mapAt, hb, keyKind, cond_true]
  rcases find_rw (l := l) (es := es) (i := 0) with ⟨h1, j, h2, h3⟩ | ⟨h1, h2⟩
  · simp only [h2, insS, if_pos h1, Nat.zero_add]
    have : (mapS es).set j (rwV l, .bool true) = mapS es := by
      apply List.ext_getElem?
      intro i
      by_cases e : j = i
      · subst e
        have hlt : j < (mapS es).length := by
          have := (List.getElem?_eq_some_iff.1 h3).1
          simpa [mapS] using this
        rw [List.getElem?_set_self hlt]
        simp [mapS, h3]
      · rw [List.getElem?_set_ne e]
    rw [this]
  · simp only [h2, insS, if_neg h1]
    rw [show mapS es ++ [(rwV l, Value.bool true)] = mapS (es ++ [l]) by simp [mapS]]
theorem lenA_map {h : List Blk} {b : Nat} {es : List (List Bool)} (hb : h[b]? = some (mapB es)) : lenA Try.prog h 80 (.map (some b)) = some (iv es.length, [b]) := by
  have e1 : Try.prog.underlying 80 = some (.map 9 4) := by kernel_rfl
  simp only [lenA, e1, mapAt, hb, Option.map_some]
  simp [mapS, goInt]
end Go.Proofs.Ytjimphlkhjmaiaa.sw
namespace Go.Proofs.Ytjimphlkhjmaiaa.sw
open Go.GE
set_option linter.unusedVariables false
set_option linter.unusedSimpArgs false
set_option linter.unusedSectionVars false
set_option maxRecDepth 100000
set_option maxHeartbeats 4000000
theorem ptrV_map {d b : Nat} : ptrV (d + 1) (.map (some b)) = [b] := rfl
theorem renV_map {f : Nat → Option Nat} {d b : Nat} : renV f (d + 1) (.map (some b)) = (f b).map fun b' => .map (some b') := rfl
theorem map_ptr {es : List (List Bool)} : ptrB (.map (mapS es)) = [] := by
  simp only [ptrB, mapS]
  induction es with
  | nil => rfl
  | cons a es ih => simp only [List.map_cons, List.flatMap_cons, ih]; rfl
theorem map_ren {f : Nat → Option Nat} {es : List (List Bool)} : renB f (.map (mapS es)) = some (.map (mapS es)) := by
  have : renP f (mapS es) = some (mapS es) := by
    simp only [mapS]
    induction es with
    | nil => rfl
    | cons a es ih => simp only [List.map_cons, renP, ih]; rfl
  simp only [renB, this, Option.map_some]
end Go.Proofs.Ytjimphlkhjmaiaa.sw
namespace Go.Proofs.Ytjimphlkhjmaiaa.sw
open Go.GE
set_option linter.unusedVariables false
set_option linter.unusedSimpArgs false
set_option linter.unusedSectionVars false
set_option maxRecDepth 100000
set_option maxHeartbeats 4000000
attribute [local simp] runOps_nil runOps_cons runOpsF_nil runOpsF_cons fstS_some fstF_some opStep_eq want_none oStep_true oStep_false fin_pure fin_read fin_alloc fin_write storeB wrN cellV addWr o_move o_assign o_pick o_alloc o_box o_load o_store o_nilCheck o_bin o_un o_extract o_callV o_callB o_callI callV_f callV_y callV_fc o_makeFunc partsA Instr.fill builtin_len builtin_max2 bin_add bin_sub bin_mul bin_quo bin_rem bin_lss bin_leq bin_gtr bin_geq bin_eql bin_neq un_neg un_not bin_shr bin_shl wrap_u64_id opd opds optAll putO nbeq nblt constOk isC ops sub cl cr co bodyOf thenS_normal thenS_ret thenS_exit thenS_goto afterN_normal afterN_ret afterN_exit afterN_goto condS_true condS_false blockS_normal blockS_ret blockS_exit blockS_goto headS normS normK_eq fixS_nil fixS_cons fix1 fixV emptyB keepO_nil keepO_cons roundC_normal roundC_exit roundC_ret roundC_goto sweep_eq sweepD rnm pickR pickW rootsB ptrT renT ptrFn renFn ptrB_flat ptrB_non renB_flat renB_non plainS_some drawS_some fpsOk disj unord range' dropTo enumT undef wrap_i64_id Value.cells mkCells ptrTo scal cellsAt rdN endS_ret resultsA Option.bind_some tupV finish reachN dep ptrL_eq ptrL renL_eq renL ptrV_bool ptrV_int ptrV_string ptrV_nilFunc ptrV_nilIface ptrV_nilPtr ptrV_ptr ptrV_nilSl ptrV_sl ptrV_iface ptrV_agg ptrV_tuple ptrV_func renV_bool renV_int renV_string renV_nilFunc renV_nilIface renV_nilPtr renV_ptr renV_nilSl renV_sl renV_iface renV_agg renV_tuple renV_func gotoS_goto gotoS_normal gotoS_exit gotoS_ret skip_seq sliceE bnd bndHi intOf optOpd keepT_nil keepT_cons keepC_t keepC_f lk_nil lk_cons lkC_t lkC_f has_nil has_cons hasC_t hasC_f rep_nil rep_cons repC_t repC_f put_eq putC_t putC_f mem_nil mem_cons memC_t memC_f idx_nil idx_cons idxC_t idxC_f reach_nil reachP_cons reachQ_t reachQ_f ptrB_dead renB_dead ins_eq
attribute [local simp] n42_1s n42_4s n42_8s n42_11s n42_12s n42_10s n42_15s n42_17s n42_20s n42_21s n42_19s n42_22s n42_18s n42_16s n42_14s n42_13s n42_9s n42_7s n42_6s n42_6g n42_5s n42_3s n42_24s n42_25s n42_23s n42_2s n42_0s Try.f42 n22_1s n22_5s n22_8s n22_9s n22_7s n22_11s n22_14s n22_15s n22_13s n22_17s n22_20s n22_21s n22_19s n22_22s n22_18s n22_16s n22_12s n22_10s n22_6s n22_4s n22_3s n22_24s n22_25s n22_23s n22_2s n22_0s Try.f22
theorem dec_row {l : List Bool} {p : Nat} (hp : p < l.length) : Utf8.decode ⟨(markU l).toArray⟩ p = ((cond (l.getD p false) 49 48 : Nat), 1) := by
  have hs : p < (⟨(markU l).toArray⟩ : ByteArray).size := by rw [st_size, mark_len]; exact hp
  have hv : (⟨(markU l).toArray⟩ : ByteArray)[p]'hs = bitU (l.getD p false) := by
    show (markU l).toArray[p]'_ = _
    simp [markU, hp]
  rw [decode_ascii _ _ hs (by rw [hv]; cases l.getD p false <;> decide), hv]
  cases l.getD p false <;> rfl
theorem next_row {h : List Blk} {b p : Nat} {l : List Bool} (hb : h[b]? = some (.siter ⟨(markU l).toArray⟩ p)) (hp : p < l.length) :
    nextB h b = some ⟨.tuple #[.bool true, iv p, .int .i32 ((cond (l.getD p false) 49 48 : Nat) : Int)], h.set b (.siter ⟨(markU l).toArray⟩ (p + 1)), [b], [b]⟩ := by
  have hs : p < (⟨(markU l).toArray⟩ : ByteArray).size := by rw [st_size, mark_len]; exact hp
  simp only [nextB, hb, if_pos hs, dec_row hp]
  rfl
theorem next_end {h : List Blk} {b p : Nat} {l : List Bool} (hb : h[b]? = some (.siter ⟨(markU l).toArray⟩ p)) (hp : l.length ≤ p) : nextB h b = some ⟨.tuple #[.bool false], h, [b], []⟩ := by
  have hs : ¬ p < (⟨(markU l).toArray⟩ : ByteArray).size := by rw [st_size, mark_len]; omega
  simp only [nextB, hb, if_neg hs]
theorem siter_ptr {s : ByteArray} {p : Nat} : ptrB (.siter s p) = [] := rfl
theorem siter_ren {f : Nat → Option Nat} {s : ByteArray} {p : Nat} : renB f (.siter s p) = some (.siter s p) := rfl
theorem k57 (x : Bool) (h : List Blk) : callH LL 57 [st [48, 49], .int .i32 ((cond x 49 48 : Nat) : Int)] h = some ⟨.bool true, h, [], []⟩ := by
  cases x
  · exact callH_none rfl (fun _ => rfl) (L_tab (by kernel_rfl)) fun _ => rfl
  · exact callH_none rfl (fun _ => rfl) (L_tab (by kernel_rfl)) fun _ => rfl
theorem l42 (l : List Bool) : ∀ (q p : Nat), p + q = l.length →
    lpB Try.prog LL ⟨42, 16, 0, none⟩ n42_6 n42_7 ⟨[(1, st [48, 49]), (8, pp 0)], [.siter ⟨(markU l).toArray⟩ p], []⟩ = some (.exit 0, ⟨[], [], []⟩) := by
  intro q
  induction q with
  | zero =>
    intro p hp
    have n1 := @next_end [.siter ⟨(markU l).toArray⟩ p] 0 p l rfl (by omega)
    generalize (⟨(markU l).toArray⟩ : ByteArray) = s at *
    rw [lpB_eq]
    simp (maxSteps := 1000000) (disch := first | omega | decide | assumption | simp [scal]) [siter_ptr, siter_ren, o_nextT, n1]
  | succ q ih =>
    intro p hp
    have n1 := @next_row [.siter ⟨(markU l).toArray⟩ p] 0 p l rfl (by omega)
    have n2 := fun h => k57 (l.getD p false) h
    have this := ih (p + 1) (by omega)
    simp only [List.set_cons_zero] at n1
    generalize (⟨(markU l).toArray⟩ : ByteArray) = s at *
    generalize ((cond (l.getD p false) 49 48 : Nat) : Int) = r at *
    clear ih
    rw [lpB_eq]
    simp (maxSteps := 1000000) (disch := first | omega | decide | assumption | simp [scal]) [siter_ptr, siter_ren, o_nextT, n1, n2, this]
theorem k42 (l : List Bool) (h : List Blk) : callH LL 42 [rwV l, st [48, 49]] h = some ⟨.bool true, h, [], []⟩ := by
  refine callH_none rfl (fun _ => rfl) (L_run rfl ?_) fun _ => rfl
  have lp := l42 l l.length 0 (by omega)
  rw [run42 _ _ _ (by simp)]
  unfold rwV st
  generalize (⟨(markU l).toArray⟩ : ByteArray) = s at *
  simp (maxSteps := 1000000) (disch := first | omega | decide | assumption | simp [scal]) [siter_ptr, siter_ren, o_rangeT, lp]
theorem k22 (l : List Bool) (h1 : 1 ≤ l.length) (h64 : l.length ≤ 64) (h : List Blk) : callH LL 22 [rwV l] h = some ⟨iv 0, h, [], []⟩ := by
  refine callH_none rfl (fun _ => rfl) (L_run rfl ?_) fun _ => rfl
  have e1 : ¬ markU l = [] := fun e => by have := @mark_len l; rw [e] at this; simp at this; omega
  have e2 : ¬ ((64 : Int) < (l.length : Int)) := by omega
  have e3 : ¬ (64 < l.length) := by omega
  have c1 := fun h => k42 l h
  have c2 := fun h => @lenA_st h (markU l)
  rw [mark_len] at c2
  have c3 := fun c => @bin_eqls 9 c (markU l) []
  rw [run22 _ _ _ (by simp)]
  simp (maxSteps := 1000000) (disch := first | omega | decide | assumption | simp [scal]) [c1, c2, c3, e1, e2, e3]
end Go.Proofs.Ytjimphlkhjmaiaa.sw
namespace Go.Proofs.Ytjimphlkhjmaiaa.sw
open Go.GE
set_option linter.unusedVariables false
set_option linter.unusedSimpArgs false
set_option linter.unusedSectionVars false
set_option maxRecDepth 100000
set_option maxHeartbeats 4000000
attribute [local simp] runOps_nil runOps_cons runOpsF_nil runOpsF_cons fstS_some fstF_some opStep_eq want_none oStep_true oStep_false fin_pure fin_read fin_alloc fin_write storeB wrN cellV addWr o_move o_assign o_pick o_alloc o_box o_load o_store o_nilCheck o_bin o_un o_extract o_callV o_callB o_callI callV_f callV_y callV_fc o_makeFunc partsA Instr.fill builtin_len builtin_max2 bin_add bin_sub bin_mul bin_quo bin_rem bin_lss bin_leq bin_gtr bin_geq bin_eql bin_neq un_neg un_not bin_shr bin_shl wrap_u64_id opd opds optAll putO nbeq nblt constOk isC ops sub cl cr co bodyOf thenS_normal thenS_ret thenS_exit thenS_goto afterN_normal afterN_ret afterN_exit afterN_goto condS_true condS_false blockS_normal blockS_ret blockS_exit blockS_goto headS normS normK_eq fixS_nil fixS_cons fix1 fixV emptyB keepO_nil keepO_cons roundC_normal roundC_exit roundC_ret roundC_goto sweep_eq sweepD rnm pickR pickW rootsB ptrT renT ptrFn renFn ptrB_flat ptrB_non renB_flat renB_non plainS_some drawS_some fpsOk disj unord range' dropTo enumT undef wrap_i64_id Value.cells mkCells ptrTo scal cellsAt rdN endS_ret resultsA Option.bind_some tupV finish reachN dep ptrL_eq ptrL renL_eq renL ptrV_bool ptrV_int ptrV_string ptrV_nilFunc ptrV_nilIface ptrV_nilPtr ptrV_ptr ptrV_nilSl ptrV_sl ptrV_iface ptrV_agg ptrV_tuple ptrV_func renV_bool renV_int renV_string renV_nilFunc renV_nilIface renV_nilPtr renV_ptr renV_nilSl renV_sl renV_iface renV_agg renV_tuple renV_func gotoS_goto gotoS_normal gotoS_exit gotoS_ret skip_seq sliceE bnd bndHi intOf optOpd keepT_nil keepT_cons keepC_t keepC_f lk_nil lk_cons lkC_t lkC_f has_nil has_cons hasC_t hasC_f rep_nil rep_cons repC_t repC_f put_eq putC_t putC_f mem_nil mem_cons memC_t memC_f idx_nil idx_cons idxC_t idxC_f reach_nil reachP_cons reachQ_t reachQ_f ptrB_dead renB_dead ins_eq
attribute [local simp] n40_1s n40_3s n40_4s n40_2s n40_0s Try.f40
def repB (l : List Bool) : Nat → List Bool
  | 0 => []
  | c + 1 => l ++ repB l c
theorem repB_len {l : List Bool} : ∀ c, (repB l c).length = c * l.length := by
  intro c
  induction c with
  | zero => simp [repB]
  | succ c ih => simp [repB, ih, Nat.succ_mul, Nat.add_comm]
theorem repB_mark {l : List Bool} : ∀ c, Lib.repeatL (markU l) c = markU (repB l c) := by
  intro c
  induction c with
  | zero => rfl
  | succ c ih => rw [Lib.repeatL, ih, repB, mark_app]
theorem k56 (l : List Bool) (c : Nat) (hc : c ≤ 2 ^ 20) (hl : l.length ≤ 2 ^ 10) (h : List Blk) : callH LL 56 [rwV l, iv c] h = some ⟨rwV (repB l c), h, [], []⟩ := by
  refine callH_none rfl (fun _ => rfl) (L_tab ?_) fun _ => rfl
  show (if 0 ≤ (c : Int) ∧ (⟨(markU l).toArray⟩ : ByteArray).size * (c : Int).toNat ≤ 2 ^ 40 ∧ (c : Int) ≤ 2 ^ 40 then some (⟨.string ⟨(Lib.repeatL (⟨(markU l).toArray⟩ : ByteArray).data.toList (c : Int).toNat).toArray⟩, [], []⟩ : RR) else none) = _
  have h1 : l.length * c ≤ 2 ^ 10 * 2 ^ 20 := Nat.mul_le_mul hl hc
  rw [if_pos ⟨by omega, by rw [st_size, mark_len]; simp only [Int.toNat_natCast]; omega, by omega⟩]
  simp only [Int.toNat_natCast, repB_mark]
abbrev strB (l : List Bool) : Blk := .cells [rwV l] 1 true true
abbrev intB (n : Nat) : Blk := .cells [iv n] 1 true true
/-- what is seen of some marks from an index on -/
def winB (l : List Bool) (k i : Nat) : List Bool := ((repB l (2 + k / l.length)).drop i).take k
theorem k40 (l : List Bool) (k : Nat) (h : List Blk) : callH LL 40 [rwV l, iv k] h = some ⟨.func (.func 55) #[] #[pp h.length, pp (h.length + 1)], h ++ [strB l, intB k], [], []⟩ := by
  refine callN_none (v := .func (.func 55) #[] #[pp 0, pp 1]) (news := [strB l, intB k]) rfl (fun _ => rfl) (L_run rfl ?_) (fun blk hb => by
    simp only [List.mem_cons, List.not_mem_nil, or_false] at hb
    rcases hb with rfl | rfl <;> exact noIdB_flat) (by simp [renV_func, renFn, renL, renV_ptr, dep, nblt])
  rw [run40 _ _ _ (by simp)]
  simp (maxSteps := 1000000) (disch := first | omega | decide | assumption | simp [scal])
end Go.Proofs.Ytjimphlkhjmaiaa.sw
namespace Go.Proofs.Ytjimphlkhjmaiaa.sw
open Go.GE
set_option linter.unusedVariables false
set_option linter.unusedSimpArgs false
set_option linter.unusedSectionVars false
set_option maxRecDepth 100000
set_option maxHeartbeats 4000000
/-- the row that the windows are cut out of -/
abbrev longB (l : List Bool) (k : Nat) : List Bool := repB l (2 + k / l.length)
theorem long_len {l : List Bool} {k i : Nat} (hi : i < l.length) : i + k ≤ (longB l k).length := by
  rw [repB_len]
  have h1 := Nat.div_add_mod k l.length
  have h2 := Nat.mod_lt k (show 0 < l.length by omega)
  rw [Nat.add_mul, Nat.mul_comm (k / l.length)]
  omega
theorem slice_win {l : List Bool} {k i : Nat} (hi : i < l.length) (h : List Blk) : sliceB h ⟨(markU (longB l k)).toArray⟩ (some (iv i)) (some (iv ((i : Int) + k))) = pureR h (rwV (winB l k i)) := by
  have h1 := @long_len l k i hi
  have e1 : bnd (some (iv ((i : Int) + k))) (⟨(markU (longB l k)).toArray⟩ : ByteArray).size (⟨(markU (longB l k)).toArray⟩ : ByteArray).size = some (i + k) := by
    simp only [bnd, intOf, st_size, mark_len]
    rw [if_pos (by omega)]
    congr 1
  have e2 : bnd (some (iv i)) (i + k) 0 = some i := by
    simp only [bnd, intOf]
    rw [if_pos (by omega)]
    congr 1
  simp only [sliceB, e1, e2, ext_st, mark_drop, mark_take, Nat.add_sub_cancel_left]
  rfl
end Go.Proofs.Ytjimphlkhjmaiaa.sw
namespace Go.Proofs.Ytjimphlkhjmaiaa.sw
open Go.GE
set_option linter.unusedVariables false
set_option linter.unusedSimpArgs false
set_option linter.unusedSectionVars false
set_option maxRecDepth 100000
set_option maxHeartbeats 4000000
attribute [local simp] runOps_nil runOps_cons runOpsF_nil runOpsF_cons fstS_some fstF_some opStep_eq want_none oStep_true oStep_false fin_pure fin_read fin_alloc fin_write storeB wrN cellV addWr o_move o_assign o_pick o_alloc o_box o_load o_store o_nilCheck o_bin o_un o_extract o_callV o_callB o_callI callV_f callV_y callV_fc o_makeFunc partsA Instr.fill builtin_len builtin_max2 bin_add bin_sub bin_mul bin_quo bin_rem bin_lss bin_leq bin_gtr bin_geq bin_eql bin_neq un_neg un_not bin_shr bin_shl wrap_u64_id opd opds optAll putO nbeq nblt constOk isC ops sub cl cr co bodyOf thenS_normal thenS_ret thenS_exit thenS_goto afterN_normal afterN_ret afterN_exit afterN_goto condS_true condS_false blockS_normal blockS_ret blockS_exit blockS_goto headS normS normK_eq fixS_nil fixS_cons fix1 fixV emptyB keepO_nil keepO_cons roundC_normal roundC_exit roundC_ret roundC_goto sweep_eq sweepD rnm pickR pickW rootsB ptrT renT ptrFn renFn ptrB_flat ptrB_non renB_flat renB_non plainS_some drawS_some fpsOk disj unord range' dropTo enumT undef wrap_i64_id Value.cells mkCells ptrTo scal cellsAt rdN endS_ret resultsA Option.bind_some tupV finish reachN dep ptrL_eq ptrL renL_eq renL ptrV_bool ptrV_int ptrV_string ptrV_nilFunc ptrV_nilIface ptrV_nilPtr ptrV_ptr ptrV_nilSl ptrV_sl ptrV_iface ptrV_agg ptrV_tuple ptrV_func renV_bool renV_int renV_string renV_nilFunc renV_nilIface renV_nilPtr renV_ptr renV_nilSl renV_sl renV_iface renV_agg renV_tuple renV_func gotoS_goto gotoS_normal gotoS_exit gotoS_ret skip_seq sliceE bnd bndHi intOf optOpd keepT_nil keepT_cons keepC_t keepC_f lk_nil lk_cons lkC_t lkC_f has_nil has_cons hasC_t hasC_f rep_nil rep_cons repC_t repC_f put_eq putC_t putC_f mem_nil mem_cons memC_t memC_f idx_nil idx_cons idxC_t idxC_f reach_nil reachP_cons reachQ_t reachQ_f ptrB_dead renB_dead ins_eq
attribute [local simp] n33_1s n33_3s n33_5s n33_8s n33_12s n33_15s n33_16s n33_14s n33_20s n33_21s n33_19s n33_18s n33_22s n33_17s n33_13s n33_11s n33_10s n33_10g n33_9s n33_7s n33_24s n33_25s n33_23s n33_6s n33_4s n33_2s n33_0s Try.f33
abbrev lpV (B C : Nat) : Value := .agg #[.int .u64 (B : Int), uv C]
theorem wrap_u64 {a : Nat} (h : a < 2 ^ 64) : IntKind.u64.wrap (a : Int) = a := by
  simp [IntKind.wrap, IntKind.bits, IntKind.signed]; omega
theorem bin_and1u {P : Program} {t : TypeId} {c : Bool} {w : Nat} (h : w < 2 ^ 64) : binA P .and t c (.int .u64 (w : Int)) (.int .u64 1) = some (.int .u64 ((w % 2 : Nat) : Int)) := by
  have e : (BitVec.ofInt 64 (w : Int) &&& BitVec.ofInt 64 1).toNat = w % 2 := by
    rw [BitVec.ofInt_natCast]
    rw [show BitVec.ofInt 64 1 = BitVec.ofNat 64 1 from rfl, BitVec.toNat_and, BitVec.toNat_ofNat, BitVec.toNat_ofNat, Nat.mod_eq_of_lt (by omega), Nat.mod_eq_of_lt (by decide : 1 < 2 ^ 64), Nat.and_one_is_mod]
  have e' : IntKind.u64.wrap ((BitVec.ofInt 64 (w : Int) &&& BitVec.ofInt 64 1).toNat : Int) = ((w % 2 : Nat) : Int) := by rw [e]; exact wrap_u64 (by omega)
  show some (Value.int .u64 (IntKind.u64.wrap ((BitVec.ofInt 64 (w : Int) &&& BitVec.ofInt 64 1).toNat : Int))) = _
  rw [e']
theorem fdiv_powu {w i : Nat} (hi : i < 64) : ((w : Int).fdiv (2 ^ min i IntKind.u64.bits)) = ((w / 2 ^ i : Nat) : Int) := by
  rw [show min i IntKind.u64.bits = i from Nat.min_eq_left (Nat.le_of_lt hi), Int.fdiv_eq_ediv_of_nonneg _ (by exact_mod_cast Nat.zero_le _)]
  simp
theorem l33 (B C n : Nat) (hB : B < 2 ^ 64) (n64 : n ≤ 64) : ∀ (q i : Nat), i + q = n →
    lpB Try.prog LL ⟨33, 41, 0, none⟩ n33_10 n33_11 ⟨[(3, pp 0), (8, sl 1 0 n n), (23, iv n), (24, iv i)], [.cells [.int .u64 (B : Int), uv C] 1 true true, .cells (fillV (bitL B i) q) 1 true true], []⟩ =
      some (.exit 0, ⟨[(8, sl 0 0 n n)], [.cells (markV (bitL B n)) 1 true true], []⟩) := by
  intro q
  induction q with
  | zero =>
    intro i hi
    obtain rfl : i = n := by omega
    have : fillV (bitL B i) 0 = markV (bitL B i) := by simp [fillV]
    rw [this]
    generalize markV (bitL B i) = F
    rw [lpB_eq]
    simp (maxSteps := 1000000) (disch := first | omega | decide | assumption | simp [scal]) [o_fieldAddr fa_46_1 (by decide), loadA_eq ia_5, o_convI cv_5_3, lenA_sl lk_51, o_fieldAddr fa_46_0 (by decide), loadA_eq ia_44, o_convI cv_44_5, o_indexAddrS es_51, sz_5]
  | succ q ih =>
    intro i hi
    have e1 : i < n := by omega
    have e2 : (i : Int) < n := by omega
    have this := ih (i + 1) (by omega)
    simp only [cast1] at this
    have t1 : Int.tmod (i : Int) 64 = (i : Int) := by
      show ((i % 64 : Nat) : Int) = i
      rw [Nat.mod_eq_of_lt (by omega)]
    have f1 := @fdiv_powu B i (by omega)
    have hy : B / 2 ^ i < 2 ^ 64 := Nat.lt_of_le_of_lt (Nat.div_le_self _ _) (by omega)
    have hset : ∀ v, v = uv (cond (decide (B / 2 ^ i % 2 = 1)) 49 48) → (fillV (bitL B i) (q + 1)).set i v = fillV (bitL B (i + 1)) q := fun v hv => by
      have := @fillV_set (bitL B i) q _ v hv
      rw [bitL_len, ← bitL_succ] at this
      exact this
    have hlen : (fillV (bitL B i) (q + 1)).length = n := by rw [fillV_len, bitL_len]; omega
    generalize B / 2 ^ i = y at *
    have f2 := fun c => @bin_and1u Try.prog 44 c y hy
    obtain ⟨r, hr⟩ : ∃ r, y % 2 = r := ⟨_, rfl⟩
    have r2 : r ≤ 1 := by omega
    rw [hr] at hset f2
    have w0 : IntKind.i64.wrap (i : Int) = i := wrap_nn (by omega)
    have w1 : IntKind.u64.wrap (48 + (r : Int)) = 48 + (r : Int) := by simp [IntKind.wrap, IntKind.bits, IntKind.signed]; omega
    have w2 : IntKind.u8.wrap (48 + (r : Int)) = 48 + (r : Int) := by simp [IntKind.wrap, IntKind.bits, IntKind.signed]; omega
    have hset := hset (.int .u8 (48 + (r : Int))) (by
      have : r = 0 ∨ r = 1 := by omega
      rcases this with rfl | rfl <;> rfl)
    generalize fillV (bitL B i) (q + 1) = F at *
    generalize fillV (bitL B (i + 1)) q = F' at *
    have e3 : i < F.length := by omega
    clear ih
    rw [lpB_eq]
    simp (maxSteps := 1000000) (disch := first | omega | decide | assumption | simp [scal]) [o_fieldAddr fa_46_1 (by decide), loadA_eq ia_5, o_convI cv_5_3, lenA_sl lk_51, o_fieldAddr fa_46_0 (by decide), loadA_eq ia_44, o_convI cv_44_5, o_indexAddrS es_51, sz_5, e1, e2, e3, t1, f1, f2, w0, w1, w2, hset, this]
theorem k33 (B C : Nat) (hB : B < 2 ^ 64) (hC : C < 256) (h : List Blk) : callH LL 33 [lpV B C, iv 1, iv 64] h = some ⟨rwV (bitL B (1 + C % 64)), h, [], []⟩ := by
  refine callH_none rfl (fun _ => rfl) (L_run rfl ?_) fun _ => rfl
  have ht : Int.tmod (C : Int) 64 = ((C % 64 : Nat) : Int) := rfl
  have w0 : IntKind.i64.wrap (C : Int) = C := wrap_nn (by omega)
  obtain ⟨n, hn⟩ : ∃ n, 1 + C % 64 = n := ⟨_, rfl⟩
  have w2 : IntKind.i64.wrap (1 + ((C % 64 : Nat) : Int)) = (n : Int) := by rw [wrap_i64_id (by omega) (by omega)]; omega
  have hn1 : 1 ≤ n ∧ n ≤ 64 := by omega
  rw [hn]
  have lp := l33 B C n hB hn1.2 n 0 (by omega)
  have hf : fillV (bitL B 0) n = List.replicate n (uv 0) := by simp [fillV, bitL, markV]
  rw [hf] at lp
  simp only [Int.natCast_zero] at lp
  have c1 := @conS_mark [.cells (markV (bitL B n)) 1 true true] 0 n 1 (bitL B n) true true rfl bitL_len hn1.1
  generalize C % 64 = r at *
  generalize markV (bitL B n) = F at *
  have m1 : (n : Int) ≤ 70368744177664 := by omega
  rw [run33 _ _ _ (by simp)]
  simp (maxSteps := 1000000) (disch := first | omega | decide | assumption | simp [scal]) [o_fieldAddr fa_46_1 (by decide), loadA_eq ia_5, o_convI cv_5_3, lenA_sl lk_51, o_fieldAddr fa_46_0 (by decide), loadA_eq ia_44, o_convI cv_44_5, o_indexAddrS es_51, sz_5, ht, w0, w2, mk51, allocR, m1, lp, o_conT, c1]
end Go.Proofs.Ytjimphlkhjmaiaa.sw
namespace Go.Proofs.Ytjimphlkhjmaiaa.sw
open Go.GE
set_option linter.unusedVariables false
set_option linter.unusedSimpArgs false
set_option linter.unusedSectionVars false
theorem turn_len {l : List Bool} {t : Nat} (h : t ≤ l.length) : (turnB l t).length = l.length := by simp [turnB]; omega
theorem turn_get {l : List Bool} {j k : Nat} (hj : j ≤ l.length) (hk : k < l.length) : (turnB l j)[k]? = l[(k + j) % l.length]? := by
  unfold turnB
  by_cases h : k < l.length - j
  · rw [List.getElem?_append_left (by simp; exact h), List.getElem?_drop, Nat.mod_eq_of_lt (by omega), Nat.add_comm]
  · rw [List.getElem?_append_right (by simp; omega), List.length_drop, List.getElem?_take, if_pos (by omega)]
    congr 1
    rw [show k + j = (k + j - l.length) + l.length by omega, Nat.add_mod_right, Nat.mod_eq_of_lt (by omega)]
    omega
theorem turn_turn {l : List Bool} {i j : Nat} (h1 : 1 ≤ l.length) (hj : j ≤ l.length) (hi : i ≤ l.length) : turnB (turnB l j) i = turnB l ((i + j) % l.length) := by
  have hm : (i + j) % l.length < l.length := Nat.mod_lt _ h1
  apply List.ext_getElem?
  intro k
  by_cases hk : k < l.length
  · rw [turn_get (by rw [turn_len hj]; exact hi) (by rw [turn_len hj]; exact hk), turn_len hj, turn_get hj (Nat.mod_lt _ h1), turn_get (Nat.le_of_lt hm) hk]
    congr 1
    rw [Nat.mod_add_mod, Nat.add_mod_mod, Nat.add_assoc]
  · rw [List.getElem?_eq_none (by rw [turn_len (by rw [turn_len hj]; exact hi), turn_len hj]; omega), List.getElem?_eq_none (by rw [turn_len (Nat.le_of_lt hm)]; omega)]
theorem turn_zero {l : List Bool} : turnB l 0 = l := by simp [turnB]
theorem turn_back {l : List Bool} {t : Nat} (h1 : 1 ≤ l.length) (ht : t < l.length) : turnB (turnB l t) (l.length - t) = l := by
  rw [turn_turn h1 (Nat.le_of_lt ht) (by omega), Nat.sub_add_cancel (Nat.le_of_lt ht), Nat.mod_self, turn_zero]
theorem rep_get {l : List Bool} (h1 : 1 ≤ l.length) : ∀ (c k : Nat), k < c * l.length → (repB l c)[k]? = l[k % l.length]? := by
  intro c
  induction c with
  | zero => intro k hk; omega
  | succ c ih =>
    intro k hk
    rw [repB]
    by_cases h : k < l.length
    · rw [List.getElem?_append_left h, Nat.mod_eq_of_lt h]
    · rw [Nat.succ_mul] at hk
      rw [List.getElem?_append_right (by omega), ih _ (by omega)]
      congr 1
      rw [Nat.mod_eq_sub_mod (by omega : k ≥ l.length)]
theorem win_get {l : List Bool} {k i x : Nat} (h1 : 1 ≤ l.length) (hi : i < l.length) (hx : x < k) : (winB l k i)[x]? = l[(i + x) % l.length]? := by
  have h2 := @long_len l k i hi
  rw [repB_len] at h2
  unfold winB
  rw [List.getElem?_take, if_pos hx, List.getElem?_drop, rep_get h1 _ _ (by omega)]
theorem win_len {l : List Bool} {k i : Nat} (hi : i < l.length) : (winB l k i).length = k := by
  have h2 := @long_len l k i hi
  unfold winB
  unfold longB at h2
  rw [List.length_take, List.length_drop]
  omega
end Go.Proofs.Ytjimphlkhjmaiaa.sw
namespace Go.Proofs.Ytjimphlkhjmaiaa.sw
open Go.GE
set_option linter.unusedVariables false
set_option linter.unusedSimpArgs false
set_option linter.unusedSectionVars false
set_option maxRecDepth 100000
set_option maxHeartbeats 4000000
section
open Go.ChangeShapes Go.WideShapes Go.RowKit
variable {H : Type} {enc : TypeId × Value → H} {W : World} {base b0 : Nat} {v : Value} {d : DataW H} {p : List MemPlace}
theorem u64_wf {z : Int} (h : (Lit.int .u64 z).wf = true) : 0 ≤ z ∧ z ≤ 18446744073709551615 := by simpa [Lit.wf, IntKind.min, IntKind.max, IntKind.signed, IntKind.bits] using h
theorem open_lamp (hv : Value.okWide Try.prog W .any b0 46 v) (hd : DataW.Trod enc Try.prog W base (fun _ => true) true 46 v d p) : ∃ B C : Nat, v = lpV B C ∧ B < 2 ^ 64 ∧ C < 256 := by
  simp only [Value.okWide, Try.underlying46] at hv
  obtain ⟨cs, rfl, _, _⟩ := hv
  obtain ⟨fuel, hf⟩ := hd
  obtain ⟨zs, e, hw⟩ := open_flat 5 46 [.u64, .u8] fuel _ _ (by kernel_rfl) hf
  match zs, hw.1, hw, e with
  | [x, y], _, hw, e =>
    obtain ⟨B, rfl, hB⟩ := nat_of (b := 18446744073709551615) (u64_wf (hw.2 0 .u64 x rfl rfl))
    obtain ⟨C, rfl, hC⟩ := nat_of (b := 255) (u8_wf (hw.2 1 .u8 y rfl rfl))
    have : cs = #[.int .u64 (B : Int), uv C] := by
      cases cs
      exact congrArg Array.mk e
    subst this
    exact ⟨B, C, rfl, by omega, by omega⟩
theorem VR_lamp {m : Mp} {B C : Nat} : VR m (lpV B C) (lpV B C) := .agg (.cons (.int _ _) (.cons (.int _ _) .nil))
end
end Go.Proofs.Ytjimphlkhjmaiaa.sw
namespace Go.Proofs.Ytjimphlkhjmaiaa.sw
open Go.GE
set_option linter.unusedVariables false
set_option linter.unusedSimpArgs false
set_option linter.unusedSectionVars false
set_option maxRecDepth 100000
set_option maxHeartbeats 4000000
attribute [local simp] runOps_nil runOps_cons runOpsF_nil runOpsF_cons fstS_some fstF_some opStep_eq want_none oStep_true oStep_false fin_pure fin_read fin_alloc fin_write storeB wrN cellV addWr o_move o_assign o_pick o_alloc o_box o_load o_store o_nilCheck o_bin o_un o_extract o_callV o_callB o_callI callV_f callV_y callV_fc o_makeFunc partsA Instr.fill builtin_len builtin_max2 bin_add bin_sub bin_mul bin_quo bin_rem bin_lss bin_leq bin_gtr bin_geq bin_eql bin_neq un_neg un_not bin_shr bin_shl wrap_u64_id opd opds optAll putO nbeq nblt constOk isC ops sub cl cr co bodyOf thenS_normal thenS_ret thenS_exit thenS_goto afterN_normal afterN_ret afterN_exit afterN_goto condS_true condS_false blockS_normal blockS_ret blockS_exit blockS_goto headS normS normK_eq fixS_nil fixS_cons fix1 fixV emptyB keepO_nil keepO_cons roundC_normal roundC_exit roundC_ret roundC_goto sweep_eq sweepD rnm pickR pickW rootsB ptrT renT ptrFn renFn ptrB_flat ptrB_non renB_flat renB_non plainS_some drawS_some fpsOk disj unord range' dropTo enumT undef wrap_i64_id Value.cells mkCells ptrTo scal cellsAt rdN endS_ret resultsA Option.bind_some tupV finish reachN dep ptrL_eq ptrL renL_eq renL ptrV_bool ptrV_int ptrV_string ptrV_nilFunc ptrV_nilIface ptrV_nilPtr ptrV_ptr ptrV_nilSl ptrV_sl ptrV_iface ptrV_agg ptrV_tuple ptrV_func renV_bool renV_int renV_string renV_nilFunc renV_nilIface renV_nilPtr renV_ptr renV_nilSl renV_sl renV_iface renV_agg renV_tuple renV_func gotoS_goto gotoS_normal gotoS_exit gotoS_ret skip_seq sliceE bnd bndHi intOf optOpd keepT_nil keepT_cons keepC_t keepC_f lk_nil lk_cons lkC_t lkC_f has_nil has_cons hasC_t hasC_f rep_nil rep_cons repC_t repC_f put_eq putC_t putC_f mem_nil mem_cons memC_t memC_f idx_nil idx_cons idxC_t idxC_f reach_nil reachP_cons reachQ_t reachQ_f ptrB_dead renB_dead ins_eq
attribute [local simp] n45_1s n45_3s n45_6s n45_9s n45_13s n45_16s n45_17s n45_15s n45_18s n45_14s n45_12s n45_19s n45_11s n45_10s n45_7s n45_5s n45_21s n45_22s n45_20s n45_4s n45_2s n45_0s Try.f45
def lookX (P : Program) (t : TypeId) (h : List Blk) (x k : Option Value) (ok : Bool) : Option OR := match P.underlying t, x, k with
    | some (.map kt et), some (.map m), some kv => match P.underlying kt, zeroA P et, (match m with | none => some ([], []) | some b => (mapAt h b).map fun es => (es, [b])) with
      | some kd, some z, some (es, rd) => cond (keyKind kd kv) (match findA kv es 0 with
        | some r => some ⟨if ok then .tuple #[(r.map (·.2)).getD z, .bool r.isSome] else (r.map (·.2)).getD z, h, rd, []⟩
        | none => none) none
      | _, _, _ => none
    | _, _, _ => none
theorem o_look {σ : Tm} {h : List Blk} {d : Option Nat} {ty : TypeId} {pos : String} {af : Array Edge} {g : Option (Nat × Bool)} {t : TypeId} {x y : Operand} {ok : Bool} : aop Try.prog LL σ h ⟨d, .lookup t x y ok, ty, pos, af, g⟩ = lookX Try.prog t h (opd σ x) (opd σ y) ok := rfl
theorem look80 {h : List Blk} {b : Nat} {es : List (List Bool)} {l : List Bool} (hb : h[b]? = some (mapB es)) : lookX Try.prog 80 h (some (.map (some b))) (some (rwV l)) false = some ⟨.bool (decide (l ∈ es)), h, [b], []⟩ := by
  have e1 : Try.prog.underlying 80 = some (.map 9 4) := by kernel_rfl
  have e3 : zeroA Try.prog 4 = some (.bool false) := by kernel_rfl
  simp only [lookX, e1, u9, e3, mapAt, hb, keyKind, cond_true, Option.map_some]
  rcases find_rw (l := l) (es := es) (i := 0) with ⟨h1, j, h2, h3⟩ | ⟨h1, h2⟩
  · simp only [h2, h1, decide_true]; rfl
  · simp only [h2, h1, decide_false]; rfl
noncomputable def lp45 (m b : Nat) : ALoop := ⟨.ready, none, 45, [(5, pp m), (4, pp b)], 19, #[12, 13], n45_9, n45_10⟩
noncomputable def lpD45 (m b : Nat) : ALoop := { lp45 m b with state := .done, pending := some .ret }
abbrev bB (b : Bool) : Blk := .cells [.bool b] 1 true true
abbrev mpB (b : Nat) : Blk := .cells [.map (some b)] 1 false true
theorem loop_ptr {s : LoopState} {p : Option Code} {f : FuncId} {σ : Tm} {n : Nat} {ps : Array Tmp} {a c : Code} : ptrB (.loop ⟨s, p, f, σ, n, ps, a, c⟩) = ptrT σ := rfl
theorem loop_ren {g : Nat → Option Nat} {s : LoopState} {p : Option Code} {f : FuncId} {σ : Tm} {n : Nat} {ps : Array Tmp} {a c : Code} : renB g (.loop ⟨s, p, f, σ, n, ps, a, c⟩) = (renT g σ).map fun z => .loop ⟨s, p, f, z, n, ps, a, c⟩ := rfl
theorem mp_ptr {b : Nat} : ptrB (mpB b) = [b] := rfl
theorem mp_ren {g : Nat → Option Nat} {b : Nat} : renB g (mpB b) = (g b).map fun b' => mpB b' := by
  show (optAll (renV g dep) [.map (some b)]).map _ = _
  simp only [optAll, dep, renV_map]
  cases g b <;> rfl
theorem r45 (i : Nat) (w : List Bool) (es : List (List Bool)) : LL.rnd 0 [iv i, rwV w] [.loop (lp45 1 3), mpB 2, mapB es, bB false] =
    if w ∈ es then some ⟨.bool false, [], [(0, .loop (lpD45 1 3)), (3, bB false)]⟩ else some ⟨.bool true, [], [(0, .loop (lp45 1 3)), (2, mapB (es ++ [w]))]⟩ := by
  rw [show LL = L Try.prog (wk.wtab.keep kpT) from rfl, L_rnd_eq]
  have p1 := @map_ptr es
  have p2 := fun f => @map_ren f es
  have p3 := @map_ptr (es ++ [w])
  have p4 := fun f => @map_ren f (es ++ [w])
  have e1 : codeB Try.prog LL ⟨45, 19, 4, some 0⟩ n45_9 ⟨[(13, rwV w), (12, iv i), (5, pp 1), (4, pp 3)], [.loop (lp45 1 3), mpB 2, mapB es, bB false], []⟩ =
      some (.normal, ⟨[(7, rwV w), (13, rwV w), (12, iv i), (5, pp 1), (4, pp 3)], [.loop (lp45 1 3), mpB 2, mapB es, bB false], []⟩) := by
    simp (maxSteps := 1000000) (disch := first | omega | decide | assumption | simp [scal]) [za_4, za_80, sz_80, loadA_eq ia_80, sz_4, loadA_eq ia_4]
  have k1 := @look80 [.loop { lp45 1 3 with state := .busy }, mpB 2, mapB es, bB false] 2 es w rfl
  have k2 := @upd80 [.loop { lp45 1 3 with state := .busy }, mpB 2, mapB es, bB false] 2 es w rfl
  simp only [lp45, List.set_cons_succ, List.set_cons_zero] at k1 k2
  by_cases hw : w ∈ es
  · have e2 : codeB Try.prog LL ⟨45, 19, 4, some 0⟩ n45_10 ⟨[(7, rwV w), (13, rwV w), (12, iv i), (5, pp 1), (4, pp 3)], [.loop { lp45 1 3 with state := .busy }, mpB 2, mapB es, bB false], [0]⟩ =
        some (.ret, ⟨[(4, pp 3)], [.loop { lp45 1 3 with state := .busy }, mpB 2, mapB es, bB false], [0, 3]⟩) := by
      rw [decide_eq_true hw] at k1
      simp (maxSteps := 1000000) (disch := first | omega | decide | assumption | simp [scal]) [za_4, za_80, sz_80, loadA_eq ia_80, sz_4, loadA_eq ia_4, o_look, k1, ins, ptrV_map, p1, p2, lp45, loop_ptr, loop_ren, mp_ptr, mp_ren]
    rw [if_pos hw]
    rw [rnd_out (lp := lp45 1 3) (l1 := lp45 1 3) (l2 := { lp45 1 3 with state := .busy }) (e := .ret) rfl rfl rfl rfl rfl e1 rfl rfl e2 (by simp) rfl]
    simp (maxSteps := 1000000) (disch := first | omega | decide | assumption | simp [scal]) [ins, lp45, lpD45, loop_ptr, loop_ren, mp_ptr, mp_ren, exCode, ptrV_map, renV_map, p1, p2]
  · have e2 : codeB Try.prog LL ⟨45, 19, 4, some 0⟩ n45_10 ⟨[(7, rwV w), (13, rwV w), (12, iv i), (5, pp 1), (4, pp 3)], [.loop { lp45 1 3 with state := .busy }, mpB 2, mapB es, bB false], [0]⟩ =
        some (.normal, ⟨[(7, rwV w), (13, rwV w), (12, iv i), (5, pp 1), (4, pp 3)], [.loop { lp45 1 3 with state := .busy }, mpB 2, mapB (es ++ [w]), bB false], [0, 2]⟩) := by
      rw [decide_eq_false hw] at k1
      simp only [insS, if_neg hw] at k2
      simp (maxSteps := 1000000) (disch := first | omega | decide | assumption | simp [scal]) [za_4, za_80, sz_80, loadA_eq ia_80, sz_4, loadA_eq ia_4, o_look, o_mapU, k1, k2, ins, ptrV_map, p1, p3, lp45, loop_ptr, mp_ptr, mp_ren]
    rw [if_neg hw]
    rw [rnd_step (lp := lp45 1 3) (l1 := lp45 1 3) (l2 := { lp45 1 3 with state := .busy }) rfl rfl rfl rfl rfl e1 rfl rfl e2 rfl]
    simp (maxSteps := 1000000) (disch := first | omega | decide | assumption | simp [scal]) [ins, lp45, loop_ptr, loop_ren, mp_ptr, mp_ren, ptrV_map, renV_map, p1, p2, p3, p4]
end Go.Proofs.Ytjimphlkhjmaiaa.sw
namespace Go.Proofs.Ytjimphlkhjmaiaa.sw
open Go.GE
set_option linter.unusedVariables false
set_option linter.unusedSimpArgs false
set_option linter.unusedSectionVars false
set_option maxRecDepth 100000
set_option maxHeartbeats 4000000
attribute [local simp] runOps_nil runOps_cons runOpsF_nil runOpsF_cons fstS_some fstF_some opStep_eq want_none oStep_true oStep_false fin_pure fin_read fin_alloc fin_write storeB wrN cellV addWr o_move o_assign o_pick o_alloc o_box o_load o_store o_nilCheck o_bin o_un o_extract o_callV o_callB o_callI callV_f callV_y callV_fc o_makeFunc partsA Instr.fill builtin_len builtin_max2 bin_add bin_sub bin_mul bin_quo bin_rem bin_lss bin_leq bin_gtr bin_geq bin_eql bin_neq un_neg un_not bin_shr bin_shl wrap_u64_id opd opds optAll putO nbeq nblt constOk isC ops sub cl cr co bodyOf thenS_normal thenS_ret thenS_exit thenS_goto afterN_normal afterN_ret afterN_exit afterN_goto condS_true condS_false blockS_normal blockS_ret blockS_exit blockS_goto headS normS normK_eq fixS_nil fixS_cons fix1 fixV emptyB keepO_nil keepO_cons roundC_normal roundC_exit roundC_ret roundC_goto sweep_eq sweepD rnm pickR pickW rootsB ptrT renT ptrFn renFn ptrB_flat ptrB_non renB_flat renB_non plainS_some drawS_some fpsOk disj unord range' dropTo enumT undef wrap_i64_id Value.cells mkCells ptrTo scal cellsAt rdN endS_ret resultsA Option.bind_some tupV finish reachN dep ptrL_eq ptrL renL_eq renL ptrV_bool ptrV_int ptrV_string ptrV_nilFunc ptrV_nilIface ptrV_nilPtr ptrV_ptr ptrV_nilSl ptrV_sl ptrV_iface ptrV_agg ptrV_tuple ptrV_func renV_bool renV_int renV_string renV_nilFunc renV_nilIface renV_nilPtr renV_ptr renV_nilSl renV_sl renV_iface renV_agg renV_tuple renV_func gotoS_goto gotoS_normal gotoS_exit gotoS_ret skip_seq sliceE bnd bndHi intOf optOpd keepT_nil keepT_cons keepC_t keepC_f lk_nil lk_cons lkC_t lkC_f has_nil has_cons hasC_t hasC_f rep_nil rep_cons repC_t repC_f put_eq putC_t putC_f mem_nil mem_cons memC_t memC_f idx_nil idx_cons idxC_t idxC_f reach_nil reachP_cons reachQ_t reachQ_f ptrB_dead renB_dead ins_eq
attribute [local simp] n55_1s n55_3s n55_7s n55_10s n55_11s n55_9s n55_14s n55_16s n55_18s n55_19s n55_17s n55_15s n55_13s n55_12s n55_8s n55_6s n55_5s n55_5g n55_4s n55_2s n55_0s Try.f55
theorem y45 (i : Nat) (w : List Bool) (es : List (List Bool)) (rest : List Blk) : yieldH LL 0 [iv i, rwV w] (.loop (lp45 1 3) :: mpB 2 :: mapB es :: bB false :: rest) =
    if w ∈ es then some ⟨.bool false, .loop (lpD45 1 3) :: mpB 2 :: mapB es :: bB false :: rest, [0, 1, 2, 3], [0, 3]⟩ else some ⟨.bool true, .loop (lp45 1 3) :: mpB 2 :: mapB (es ++ [w]) :: bB false :: rest, [0, 1, 2, 3], [0, 2]⟩ := by
  have e := r45 i w es
  have p1 := @map_ptr es
  have p2 := fun f => @map_ren f es
  have p3 := @map_ptr (es ++ [w])
  have p4 := fun f => @map_ren f (es ++ [w])
  have hm : ∀ q : Nat, 20 < q → reach (.loop (lp45 1 3) :: mpB 2 :: mapB es :: bB false :: rest) 0 q [0] [] = [0, 1, 2, 3] := by
    intro q hq
    obtain ⟨q, rfl⟩ : ∃ j, q = j + 20 := ⟨q - 20, by omega⟩
    simp [reach_cons, reachC_t, reachC_f, reach_nil, rootsB, GE.mem, nblt, nbeq, loop_ptr, mp_ptr, p1, ptrB_flat, lp45, ptrT, ptrV_ptr, ptrV_map, dep]
  unfold yieldH
  have hp : 0 :: ([iv i, rwV w] : List Value).flatMap (ptrV dep) = [0] := rfl
  have hr : ∀ g, optAll (renV g dep) [iv i, rwV w] = some [iv i, rwV w] := fun _ => rfl
  simp only [hp, hm reachN (by decide), hr]
  by_cases h : w ∈ es
  · rw [if_pos h] at e ⊢
    simp only [lp45, lpD45] at e ⊢
    simp [optAll, loop_ren, mp_ren, p2, renB_flat, renT, renV_ptr, renV_map, dep, idx, nbeq, e, mergeB, renV_bool, nblt]
  · rw [if_neg h] at e ⊢
    simp only [lp45] at e ⊢
    simp [optAll, loop_ren, mp_ren, p2, p4, renB_flat, renT, renV_ptr, renV_map, dep, idx, nbeq, e, mergeB, renV_bool, nblt]
/-- are the windows from an index on different, and none of them met before? -/
def difW (l : List Bool) (k : Nat) : Nat → Nat → List (List Bool) → Bool
  | 0, _, _ => true
  | q + 1, i, es => if winB l k i ∈ es then false else difW l k q (i + 1) (es ++ [winB l k i])
section
variable (l : List Bool) (k : Nat) (h1 : 1 ≤ l.length) (h64 : l.length ≤ 64) (hk : k ≤ 64)
include h1 h64 hk
theorem l55b : ∀ (q p : Nat) (es : List (List Bool)) (W : List Nat), p + q = l.length → (W = [] ∨ W = [0, 2]) →
    (difW l k q p es = true → ∃ es' W', (W' = [0, 2] ∨ W' = W ∧ es' = es) ∧
      lpB Try.prog LL ⟨55, 28, 6, none⟩ n55_5 n55_6 ⟨[(0, .func (.yield 0) #[] #[]), (2, pp 5), (4, rwV (longB l k)), (14, pp 6)], [.loop (lp45 1 3), mpB 2, mapB es, bB false, strB l, intB k, .siter ⟨(markU l).toArray⟩ p], W⟩ =
        some (.exit 0, ⟨[], [.loop (lp45 1 3), mpB 2, mapB es', bB false, strB l, intB k], W'⟩)) ∧
    (difW l k q p es = false → ∃ es' W', (W' = [0, 2, 3] ∨ W = [] ∧ W' = [0, 3] ∧ es' = es) ∧
      lpB Try.prog LL ⟨55, 28, 6, none⟩ n55_5 n55_6 ⟨[(0, .func (.yield 0) #[] #[]), (2, pp 5), (4, rwV (longB l k)), (14, pp 6)], [.loop (lp45 1 3), mpB 2, mapB es, bB false, strB l, intB k, .siter ⟨(markU l).toArray⟩ p], W⟩ =
        some (.ret, ⟨[], [.loop (lpD45 1 3), mpB 2, mapB es', bB false, strB l, intB k], W'⟩)) := by
  intro q
  induction q with
  | zero =>
    intro p es W hp hW
    refine ⟨fun _ => ⟨es, W, by rcases hW with rfl | rfl <;> simp, ?_⟩, fun h => by simp [difW] at h⟩
    have n1 := @next_end [.loop (lp45 1 3), mpB 2, mapB es, bB false, strB l, intB k, .siter ⟨(markU l).toArray⟩ p] 6 p l rfl (by omega)
    have p1 := @map_ptr es
    have p2 := fun f => @map_ren f es
    simp only [lp45] at n1 ⊢
    unfold mapB at *
    generalize mapS es = E at *
    generalize (⟨(markU l).toArray⟩ : ByteArray) = s at *
    rw [lpB_eq]
    rcases hW with rfl | rfl <;>
    simp (maxSteps := 1000000) (disch := first | omega | decide | assumption | simp [scal]) [loadA_eq ia_9, loadA_eq ia_3, siter_ptr, siter_ren, o_nextT, n1, loop_ptr, loop_ren, mp_ptr, mp_ren, p1, p2]
  | succ q ih =>
    intro p es W hp hW
    have hpl : p < l.length := by omega
    have n1 := @next_row [.loop (lp45 1 3), mpB 2, mapB es, bB false, strB l, intB k, .siter ⟨(markU l).toArray⟩ p] 6 p l rfl hpl
    have s1 := fun h => @slice_win l k p hpl h
    have w1 : IntKind.i64.wrap ((p : Int) + (k : Int)) = (p : Int) + k := wrap_i64_id (by omega) (by omega)
    have y1 := y45 p (winB l k p) es [strB l, intB k, .siter ⟨(markU l).toArray⟩ (p + 1)]
    have p1 := @map_ptr es
    have p2 := fun f => @map_ren f es
    have p3 := @map_ptr (es ++ [winB l k p])
    have p4 := fun f => @map_ren f (es ++ [winB l k p])
    simp only [difW]
    by_cases h : winB l k p ∈ es
    · rw [if_pos h] at y1
      simp only [if_pos h]
      refine ⟨fun h => by simp at h, fun _ => ⟨es, (match W with | [] => [0, 3] | _ => [0, 2, 3]), by rcases hW with rfl | rfl <;> simp, ?_⟩⟩
      clear ih p3 p4 h
      simp only [lp45, lpD45, List.set_cons_succ, List.set_cons_zero] at n1 y1 ⊢
      unfold mapB at *
      generalize mapS es = E at *
      generalize (⟨(markU l).toArray⟩ : ByteArray) = s at *
      generalize ((cond (l.getD p false) 49 48 : Nat) : Int) = rr at *
      generalize winB l k p = w at *
      rw [show rwV (longB l k) = .string ⟨(markU (longB l k)).toArray⟩ from rfl]
      generalize (⟨(markU (longB l k)).toArray⟩ : ByteArray) = ls at *
      rw [lpB_eq]
      rcases hW with rfl | rfl <;>
      simp (maxSteps := 1000000) (disch := first | omega | decide | assumption | simp [scal]) [loadA_eq ia_9, loadA_eq ia_3, siter_ptr, siter_ren, o_nextT, n1, o_sliceT, s1, w1, y1, callV_y, addWr, ins, loop_ptr, loop_ren, mp_ptr, mp_ren, p1, p2]
    · rw [if_neg h] at y1
      simp only [if_neg h]
      obtain ⟨i1, i2⟩ := ih (p + 1) (es ++ [winB l k p]) [0, 2] (by omega) (.inr rfl)
      clear ih
      have key : lpB Try.prog LL ⟨55, 28, 6, none⟩ n55_5 n55_6 ⟨[(0, .func (.yield 0) #[] #[]), (2, pp 5), (4, rwV (longB l k)), (14, pp 6)], [.loop (lp45 1 3), mpB 2, mapB es, bB false, strB l, intB k, .siter ⟨(markU l).toArray⟩ p], W⟩ =
          lpB Try.prog LL ⟨55, 28, 6, none⟩ n55_5 n55_6 ⟨[(0, .func (.yield 0) #[] #[]), (2, pp 5), (4, rwV (longB l k)), (14, pp 6)], [.loop (lp45 1 3), mpB 2, mapB (es ++ [winB l k p]), bB false, strB l, intB k, .siter ⟨(markU l).toArray⟩ (p + 1)], [0, 2]⟩ := by
        clear i1 i2 h
        simp only [lp45, List.set_cons_succ, List.set_cons_zero] at n1 y1 ⊢
        unfold mapB at *
        generalize mapS (es ++ [winB l k p]) = E2 at *
        generalize mapS es = E at *
        generalize (⟨(markU l).toArray⟩ : ByteArray) = s at *
        generalize ((cond (l.getD p false) 49 48 : Nat) : Int) = rr at *
        generalize winB l k p = w at *
        rw [show rwV (longB l k) = .string ⟨(markU (longB l k)).toArray⟩ from rfl]
        generalize (⟨(markU (longB l k)).toArray⟩ : ByteArray) = ls at *
        conv => lhs; rw [lpB_eq]
        rcases hW with rfl | rfl <;>
        simp (maxSteps := 1000000) (disch := first | omega | decide | assumption | simp [scal]) [loadA_eq ia_9, loadA_eq ia_3, siter_ptr, siter_ren, o_nextT, n1, o_sliceT, s1, w1, y1, callV_y, addWr, ins, loop_ptr, loop_ren, mp_ptr, mp_ren, p1, p2, p3, p4]
      rw [key]
      refine ⟨fun hd => ?_, fun hd => ?_⟩
      · obtain ⟨es', W', g1, g2⟩ := i1 hd
        rcases g1 with rfl | ⟨rfl, rfl⟩
        · exact ⟨es', _, .inl rfl, g2⟩
        · exact ⟨_, _, .inl rfl, g2⟩
      · obtain ⟨es', W', g1, g2⟩ := i2 hd
        rcases g1 with rfl | ⟨z, _⟩
        · exact ⟨es', _, .inl rfl, g2⟩
        · cases z
end
end Go.Proofs.Ytjimphlkhjmaiaa.sw
namespace Go.Proofs.Ytjimphlkhjmaiaa.sw
open Go.GE
set_option linter.unusedVariables false
set_option linter.unusedSimpArgs false
set_option linter.unusedSectionVars false
set_option maxRecDepth 100000
set_option maxHeartbeats 4000000
attribute [local simp] runOps_nil runOps_cons runOpsF_nil runOpsF_cons fstS_some fstF_some opStep_eq want_none oStep_true oStep_false fin_pure fin_read fin_alloc fin_write storeB wrN cellV addWr o_move o_assign o_pick o_alloc o_box o_load o_store o_nilCheck o_bin o_un o_extract o_callV o_callB o_callI callV_f callV_y callV_fc o_makeFunc partsA Instr.fill builtin_len builtin_max2 bin_add bin_sub bin_mul bin_quo bin_rem bin_lss bin_leq bin_gtr bin_geq bin_eql bin_neq un_neg un_not bin_shr bin_shl wrap_u64_id opd opds optAll putO nbeq nblt constOk isC ops sub cl cr co bodyOf thenS_normal thenS_ret thenS_exit thenS_goto afterN_normal afterN_ret afterN_exit afterN_goto condS_true condS_false blockS_normal blockS_ret blockS_exit blockS_goto headS normS normK_eq fixS_nil fixS_cons fix1 fixV emptyB keepO_nil keepO_cons roundC_normal roundC_exit roundC_ret roundC_goto sweep_eq sweepD rnm pickR pickW rootsB ptrT renT ptrFn renFn ptrB_flat ptrB_non renB_flat renB_non plainS_some drawS_some fpsOk disj unord range' dropTo enumT undef wrap_i64_id Value.cells mkCells ptrTo scal cellsAt rdN endS_ret resultsA Option.bind_some tupV finish reachN dep ptrL_eq ptrL renL_eq renL ptrV_bool ptrV_int ptrV_string ptrV_nilFunc ptrV_nilIface ptrV_nilPtr ptrV_ptr ptrV_nilSl ptrV_sl ptrV_iface ptrV_agg ptrV_tuple ptrV_func renV_bool renV_int renV_string renV_nilFunc renV_nilIface renV_nilPtr renV_ptr renV_nilSl renV_sl renV_iface renV_agg renV_tuple renV_func gotoS_goto gotoS_normal gotoS_exit gotoS_ret skip_seq sliceE bnd bndHi intOf optOpd keepT_nil keepT_cons keepC_t keepC_f lk_nil lk_cons lkC_t lkC_f has_nil has_cons hasC_t hasC_f rep_nil rep_cons repC_t repC_f put_eq putC_t putC_f mem_nil mem_cons memC_t memC_f idx_nil idx_cons idxC_t idxC_f reach_nil reachP_cons reachQ_t reachQ_f ptrB_dead renB_dead ins_eq
attribute [local simp] n55_1s n55_3s n55_7s n55_10s n55_11s n55_9s n55_14s n55_16s n55_18s n55_19s n55_17s n55_15s n55_13s n55_12s n55_8s n55_6s n55_5s n55_5g n55_4s n55_2s n55_0s Try.f55 n45_1s n45_3s n45_6s n45_9s n45_13s n45_16s n45_17s n45_15s n45_18s n45_14s n45_12s n45_19s n45_11s n45_10s n45_7s n45_5s n45_21s n45_22s n45_20s n45_4s n45_2s n45_0s Try.f45
section
variable (l : List Bool) (k : Nat) (h1 : 1 ≤ l.length) (h64 : l.length ≤ 64) (hk : k ≤ 64)
include h1 h64 hk
theorem c55b :
    (difW l k l.length 0 [] = true → ∃ es' ws, (ws = [(0, .loop (lp45 1 3)), (2, mapB es')] ∨ ws = [] ∧ es' = []) ∧
      LL.run 55 [.func (.yield 0) #[] #[], pp 4, pp 5] [.loop (lp45 1 3), mpB 2, mapB [], bB false, strB l, intB k] = some ⟨.tuple #[], [], ws⟩) ∧
    (difW l k l.length 0 [] = false → ∃ es' ws, (ws = [(0, .loop (lpD45 1 3)), (2, mapB es'), (3, bB false)] ∨ ws = [(0, .loop (lpD45 1 3)), (3, bB false)] ∧ es' = []) ∧
      LL.run 55 [.func (.yield 0) #[] #[], pp 4, pp 5] [.loop (lp45 1 3), mpB 2, mapB [], bB false, strB l, intB k] = some ⟨.tuple #[], [], ws⟩) := by
  obtain ⟨t1, t2⟩ := l55b l k h1 h64 hk l.length 0 [] [] (by omega) (.inl rfl)
  have d1 : ((k : Int).tdiv (l.length : Int)) = ((k / l.length : Nat) : Int) := rfl
  have hd : k / l.length ≤ k := Nat.div_le_self _ _
  have w1 : IntKind.i64.wrap ((k / l.length : Nat) : Int) = ((k / l.length : Nat) : Int) := wrap_nn (by omega)
  have w2 : IntKind.i64.wrap (2 + ((k / l.length : Nat) : Int)) = ((2 + k / l.length : Nat) : Int) := by rw [show (2 : Int) + ((k / l.length : Nat) : Int) = ((2 + k / l.length : Nat) : Int) from (by simp)]; exact wrap_nn (by omega)
  have a1 : ∀ h, callH LL 56 [rwV l, iv (2 + ((k / l.length : Nat) : Int))] h = some ⟨rwV (repB l (2 + k / l.length)), h, [], []⟩ := fun h => by
    have := k56 l (2 + k / l.length) (by omega) (by omega) h
    rw [show ((2 + k / l.length : Nat) : Int) = (2 : Int) + ((k / l.length : Nat) : Int) from (by simp)] at this
    exact this
  have a2 : ∀ h, lenA Try.prog h 9 (.string ⟨(markU l).toArray⟩) = some (iv (markU l).length, []) := fun h => @lenA_st h (markU l)
  have hz : ¬ ((l.length : Int) = 0) := by omega
  rw [mark_len] at a2
  have q1 : mapB [] = .map [] := rfl
  have pre : ∀ R, lpB Try.prog LL ⟨55, 28, 6, none⟩ n55_5 n55_6 ⟨[(0, .func (.yield 0) #[] #[]), (2, pp 5), (4, rwV (longB l k)), (14, pp 6)], [.loop (lp45 1 3), mpB 2, mapB [], bB false, strB l, intB k, .siter ⟨(markU l).toArray⟩ 0], []⟩ = some R → (∃ h ws, R = (.exit 0, ⟨[], h, ws⟩) ∨ R = (.ret, ⟨[], h, ws⟩)) →
      LL.run 55 [.func (.yield 0) #[] #[], pp 4, pp 5] [.loop (lp45 1 3), mpB 2, mapB [], bB false, strB l, intB k] = endS Try.prog [] 6 (some (match R with | (.ret, s) => (.ret, s) | (_, s) => (.normal, s))) := by
    intro R this hR
    refine (L_run_eq rfl).trans ?_
    rw [run55 _ _ _ (by simp)]
    clear t1 t2
    rw [q1] at *
    simp only [lp45, longB] at this ⊢
    generalize repB l (2 + k / l.length) = lb at *
    generalize k / l.length = kd at *
    unfold strB rwV st at *
    generalize (⟨(markU l).toArray⟩ : ByteArray) = s at *
    obtain ⟨h, ws, rfl | rfl⟩ := hR
    · simp (maxSteps := 1000000) (disch := first | omega | decide | assumption | simp [scal]) [loadA_eq ia_9, loadA_eq ia_3, siter_ptr, siter_ren, o_rangeT, loop_ptr, loop_ren, mp_ptr, mp_ren, d1, hz, w1, w2, a1, a2, this]
    · simp (maxSteps := 1000000) (disch := first | omega | decide | assumption | simp [scal]) [loadA_eq ia_9, loadA_eq ia_3, siter_ptr, siter_ren, o_rangeT, loop_ptr, loop_ren, mp_ptr, mp_ren, d1, hz, w1, w2, a1, a2, this]
  refine ⟨fun hd => ?_, fun hd => ?_⟩
  · obtain ⟨es', W', g1, g2⟩ := t1 hd
    have p1 := @map_ptr es'
    have p2 := fun f => @map_ren f es'
    have := pre _ g2 ⟨_, _, .inl rfl⟩
    rcases g1 with rfl | ⟨rfl, rfl⟩
    · refine ⟨es', _, .inl rfl, this.trans ?_⟩
      simp only [lp45]
      unfold mapB at *
      generalize mapS es' = E at *
      simp [endS_normal, finish, loop_ptr, loop_ren, renB_flat, p1, p2, renT, renV_ptr]
    · refine ⟨[], _, .inr ⟨rfl, rfl⟩, this.trans ?_⟩
      simp [endS_normal, finish]
  · obtain ⟨es', W', g1, g2⟩ := t2 hd
    have p1 := @map_ptr es'
    have p2 := fun f => @map_ren f es'
    have := pre _ g2 ⟨_, _, .inr rfl⟩
    rcases g1 with rfl | ⟨_, rfl, rfl⟩
    · refine ⟨es', _, .inl rfl, this.trans ?_⟩
      simp only [lp45, lpD45]
      unfold mapB at *
      generalize mapS es' = E at *
      simp [endS, finish, loop_ptr, loop_ren, renB_flat, p1, p2, renT, renV_ptr]
    · refine ⟨[], _, .inr ⟨rfl, rfl⟩, this.trans ?_⟩
      simp only [lp45, lpD45]
      simp [endS, finish, loop_ptr, loop_ren, renB_flat, p1, p2, renT, renV_ptr]
theorem h55b :
    (difW l k l.length 0 [] = true → ∃ es' W, (W = [5, 1] ∨ W = []) ∧
      callH LL 55 [.func (.yield 5) #[] #[], pp 3, pp 4] [bB false, mapB [], mpB 1, strB l, intB k, .loop (lp45 2 0)] =
        some ⟨.tuple #[], [bB false, mapB es', mpB 1, strB l, intB k, .loop (lp45 2 0)], [5, 2, 1, 0, 3, 4], W⟩) ∧
    (difW l k l.length 0 [] = false → ∃ es' W, (W = [5, 1, 0] ∨ W = [5, 0]) ∧
      callH LL 55 [.func (.yield 5) #[] #[], pp 3, pp 4] [bB false, mapB [], mpB 1, strB l, intB k, .loop (lp45 2 0)] =
        some ⟨.tuple #[], [bB false, mapB es', mpB 1, strB l, intB k, .loop (lpD45 2 0)], [5, 2, 1, 0, 3, 4], W⟩) := by
  obtain ⟨t1, t2⟩ := c55b l k h1 h64 hk
  have p0 : ptrB (mapB []) = [] := rfl
  have hm : ∀ q : Nat, 20 < q → reach [bB false, mapB [], mpB 1, strB l, intB k, .loop (lp45 2 0)] 0 q [5, 3, 4] [] = [5, 2, 1, 0, 3, 4] := by
    intro q hq
    obtain ⟨q, rfl⟩ : ∃ j, q = j + 20 := ⟨q - 20, by omega⟩
    simp [reach_cons, reachC_t, reachC_f, reach_nil, rootsB, GE.mem, nblt, nbeq, loop_ptr, mp_ptr, p0, ptrB_flat, lp45, ptrT, ptrV_ptr, ptrV_map, dep]
  have hp : ([.func (.yield 5) #[] #[], pp 3, pp 4] : List Value).flatMap (ptrV dep) = [5, 3, 4] := rfl
  have q0 : ∀ f, renB f (mapB []) = some (mapB []) := fun f => rfl
  have key : ∀ rr, LL.run 55 [.func (.yield 0) #[] #[], pp 4, pp 5] [.loop (lp45 1 3), mpB 2, mapB [], bB false, strB l, intB k] = some rr →
      callH0 LL 55 [.func (.yield 5) #[] #[], pp 3, pp 4] [bB false, mapB [], mpB 1, strB l, intB k, .loop (lp45 2 0)] =
        mergeB [bB false, mapB [], mpB 1, strB l, intB k, .loop (lp45 2 0)] [5, 2, 1, 0, 3, 4] rr := by
    intro rr hrr
    unfold callH0
    simp only [hp, hm reachN (by decide)]
    simp only [lp45] at hrr ⊢
    simp [optAll, renV_func, renFn, renL, renV_ptr, dep, idx, nbeq, loop_ren, mp_ren, q0, renB_flat, renT, renL_eq, renV_int, renV_sl, renV_map, hrr]
  refine ⟨fun hd => ?_, fun hd => ?_⟩
  · obtain ⟨es', ws, g1, g2⟩ := t1 hd
    have p2 := fun f => @map_ren f es'
    rcases g1 with rfl | ⟨rfl, rfl⟩
    · refine ⟨es', _, .inl rfl, callH_of (by intro _; first | trivial | rfl) ?_ (by simp)⟩
      rw [key _ g2]
      simp only [lp45]
      simp [mergeB, renV_tuple, renL, dep, optAll, loop_ren, mp_ren, p2, renB_flat, renT, renV_ptr, nblt]
    · refine ⟨[], _, .inr rfl, callH_of (by intro _; first | trivial | rfl) ?_ (by simp)⟩
      rw [key _ g2]
      simp [mergeB, renV_tuple, renL, dep, optAll]
  · obtain ⟨es', ws, g1, g2⟩ := t2 hd
    have p2 := fun f => @map_ren f es'
    rcases g1 with rfl | ⟨rfl, rfl⟩
    · refine ⟨es', _, .inl rfl, callH_of (by intro _; first | trivial | rfl) ?_ (by simp)⟩
      rw [key _ g2]
      simp only [lp45, lpD45]
      simp [mergeB, renV_tuple, renL, dep, optAll, loop_ren, mp_ren, p2, renB_flat, renT, renV_ptr, nblt]
    · refine ⟨[], _, .inr rfl, callH_of (by intro _; first | trivial | rfl) ?_ (by simp)⟩
      rw [key _ g2]
      simp only [lp45, lpD45]
      simp [mergeB, renV_tuple, renL, dep, optAll, loop_ren, mp_ren, p2, renB_flat, renT, renV_ptr, nblt]
/-- all windows of a length are different -/
abbrev difB (l : List Bool) (k : Nat) : Bool := difW l k l.length 0 []
theorem k45 (h : List Blk) : callH LL 45 [rwV l, iv k] h = some ⟨.bool (difB l k), h, [], []⟩ := by
  refine callH_none rfl (fun _ => rfl) (L_run rfl ?_) fun _ => rfl
  obtain ⟨t1, t2⟩ := h55b l k h1 h64 hk
  have c2 := fun h => k40 l k h
  have q1 : mapB [] = .map [] := rfl
  have q2 : mapS [] = [] := rfl
  have q3 : ptrB (.map []) = [] := rfl
  have q4 : ∀ f, renB f (.map []) = some (.map []) := fun f => rfl
  rw [run45 _ _ _ (by simp)]
  rcases Bool.eq_false_or_eq_true (difB l k) with w | w
  · obtain ⟨es', W, hW, e⟩ := t1 w
    rw [w]
    have p1 := @map_ptr es'
    have p2 := fun f => @map_ren f es'
    rw [q1] at e
    simp only [lp45] at e
    clear t1 t2 w
    unfold mapB at e
    generalize mapS es' = E at *
    simp (maxSteps := 1000000) (disch := first | omega | decide | assumption | simp [scal]) [za_4, za_80, sz_80, loadA_eq ia_80, sz_4, loadA_eq ia_4, o_makeMap, allocR, c2, ptrV_map, renV_map, mp_ptr, mp_ren, q2, q3, q4]
    rw [range_step n45_8e n45_8k rfl]
    simp (maxSteps := 1000000) (disch := first | omega | decide | assumption | simp [scal]) [za_4, za_80, sz_80, loadA_eq ia_80, sz_4, loadA_eq ia_4, o_makeMap, allocR, c2, ptrV_map, renV_map, mp_ptr, mp_ren, e]
    rw [rangeE_ready rfl rfl rfl]
    rcases hW with rfl | rfl <;>
    simp (maxSteps := 1000000) (disch := first | omega | decide | assumption | simp [scal]) [za_4, za_80, sz_80, loadA_eq ia_80, sz_4, loadA_eq ia_4, addWr, ptrV_map, renV_map, mp_ptr, mp_ren, p1, p2]
  · obtain ⟨es', W, hW, e⟩ := t2 w
    rw [w]
    have p1 := @map_ptr es'
    have p2 := fun f => @map_ren f es'
    rw [q1] at e
    simp only [lp45, lpD45] at e
    clear t1 t2 w
    unfold mapB at e
    generalize mapS es' = E at *
    simp (maxSteps := 1000000) (disch := first | omega | decide | assumption | simp [scal]) [za_4, za_80, sz_80, loadA_eq ia_80, sz_4, loadA_eq ia_4, o_makeMap, allocR, c2, ptrV_map, renV_map, mp_ptr, mp_ren, q2, q3, q4]
    rw [range_step n45_8e n45_8k rfl]
    simp (maxSteps := 1000000) (disch := first | omega | decide | assumption | simp [scal]) [za_4, za_80, sz_80, loadA_eq ia_80, sz_4, loadA_eq ia_4, o_makeMap, allocR, c2, ptrV_map, renV_map, mp_ptr, mp_ren, e]
    rw [rangeE_done (e := .ret) rfl rfl rfl rfl]
    rcases hW with rfl | rfl <;>
    simp (maxSteps := 1000000) (disch := first | omega | decide | assumption | simp [scal]) [za_4, za_80, sz_80, loadA_eq ia_80, sz_4, loadA_eq ia_4, addWr, ptrV_map, renV_map, mp_ptr, mp_ren, p1, p2]
end
end Go.Proofs.Ytjimphlkhjmaiaa.sw
namespace Go.Proofs.Ytjimphlkhjmaiaa.sw
open Go.GE
set_option linter.unusedVariables false
set_option linter.unusedSimpArgs false
set_option linter.unusedSectionVars false
set_option maxRecDepth 100000
set_option maxHeartbeats 4000000
attribute [local simp] runOps_nil runOps_cons runOpsF_nil runOpsF_cons fstS_some fstF_some opStep_eq want_none oStep_true oStep_false fin_pure fin_read fin_alloc fin_write storeB wrN cellV addWr o_move o_assign o_pick o_alloc o_box o_load o_store o_nilCheck o_bin o_un o_extract o_callV o_callB o_callI callV_f callV_y callV_fc o_makeFunc partsA Instr.fill builtin_len builtin_max2 bin_add bin_sub bin_mul bin_quo bin_rem bin_lss bin_leq bin_gtr bin_geq bin_eql bin_neq un_neg un_not bin_shr bin_shl wrap_u64_id opd opds optAll putO nbeq nblt constOk isC ops sub cl cr co bodyOf thenS_normal thenS_ret thenS_exit thenS_goto afterN_normal afterN_ret afterN_exit afterN_goto condS_true condS_false blockS_normal blockS_ret blockS_exit blockS_goto headS normS normK_eq fixS_nil fixS_cons fix1 fixV emptyB keepO_nil keepO_cons roundC_normal roundC_exit roundC_ret roundC_goto sweep_eq sweepD rnm pickR pickW rootsB ptrT renT ptrFn renFn ptrB_flat ptrB_non renB_flat renB_non plainS_some drawS_some fpsOk disj unord range' dropTo enumT undef wrap_i64_id Value.cells mkCells ptrTo scal cellsAt rdN endS_ret resultsA Option.bind_some tupV finish reachN dep ptrL_eq ptrL renL_eq renL ptrV_bool ptrV_int ptrV_string ptrV_nilFunc ptrV_nilIface ptrV_nilPtr ptrV_ptr ptrV_nilSl ptrV_sl ptrV_iface ptrV_agg ptrV_tuple ptrV_func renV_bool renV_int renV_string renV_nilFunc renV_nilIface renV_nilPtr renV_ptr renV_nilSl renV_sl renV_iface renV_agg renV_tuple renV_func gotoS_goto gotoS_normal gotoS_exit gotoS_ret skip_seq sliceE bnd bndHi intOf optOpd keepT_nil keepT_cons keepC_t keepC_f lk_nil lk_cons lkC_t lkC_f has_nil has_cons hasC_t hasC_f rep_nil rep_cons repC_t repC_f put_eq putC_t putC_f mem_nil mem_cons memC_t memC_f idx_nil idx_cons idxC_t idxC_f reach_nil reachP_cons reachQ_t reachQ_f ptrB_dead renB_dead ins_eq
attribute [local simp] n19_1s n19_4s n19_6s n19_9s n19_10s n19_8s n19_11s n19_7s n19_5s n19_3s n19_14s n19_18s n19_21s n19_22s n19_20s n19_26s n19_28s n19_31s n19_32s n19_30s n19_33s n19_29s n19_27s n19_25s n19_24s n19_34s n19_23s n19_19s n19_17s n19_16s n19_16g n19_15s n19_13s n19_36s n19_37s n19_35s n19_12s n19_2s n19_0s Try.f19 n37_1s n37_3s n37_9s n37_11s n37_12s n37_10s n37_8s n37_14s n37_13s n37_7s n37_6s n37_6g n37_5s n37_16s n37_19s n37_23s n37_26s n37_27s n37_25s n37_30s n37_31s n37_29s n37_28s n37_24s n37_22s n37_21s n37_21g n37_20s n37_18s n37_33s n37_34s n37_32s n37_17s n37_15s n37_4s n37_2s n37_0s Try.f37
def fstD (l : List Bool) : Nat → Nat → Option Nat
  | 0, _ => none
  | q + 1, k => if difB l k = true then some k else fstD l q (k + 1)
def clrV (l : List Bool) : Nat × Nat := match fstD l (l.length + 1) 0 with
  | some k => (k, 0)
  | none => (0, 14)
section
variable (l : List Bool) (h1 : 1 ≤ l.length) (h64 : l.length ≤ 64)
include h1 h64
theorem l19 : ∀ (q k : Nat), k + q = l.length + 1 →
    lpB Try.prog LL ⟨19, 22, 0, none⟩ n19_16 n19_17 ⟨[(0, rwV l), (13, .int .i64 ((l.length : Int) + 1)), (14, iv k)], [], []⟩ =
      match fstD l q k with
      | some j => some (.ret, ⟨[(2, iv j), (3, iv 0)], [], []⟩)
      | none => some (.exit 0, ⟨[], [], []⟩) := by
  intro q
  induction q with
  | zero =>
    intro k hk
    have e1 : ¬ ((k : Int) < (l.length : Int) + 1) := by omega
    simp only [fstD]
    rw [lpB_eq]
    simp (maxSteps := 1000000) (disch := first | omega | decide | assumption | simp [scal]) [e1]
  | succ q ih =>
    intro k hk
    have e1 : ((k : Int) < (l.length : Int) + 1) := by omega
    have this := ih (k + 1) (by omega)
    simp only [cast1] at this
    have c1 := fun h => k45 l k h1 h64 (by omega) h
    simp only [fstD]
    by_cases hd : difB l k = true
    · rw [hd] at c1
      simp only [hd, if_true]
      rw [lpB_eq]
      simp (maxSteps := 1000000) (disch := first | omega | decide | assumption | simp [scal]) [e1, c1]
    · have hd' : difB l k = false := by simpa using hd
      rw [hd'] at c1
      simp only [hd', Bool.false_eq_true, if_false]
      rw [← this]
      clear this ih
      have this := Eq.refl (lpB Try.prog LL ⟨19, 22, 0, none⟩ n19_16 n19_17 ⟨[(0, rwV l), (13, .int .i64 ((l.length : Int) + 1)), (14, .int .i64 ((k : Int) + 1))], [], []⟩)
      conv => lhs; rw [lpB_eq]
      simp (maxSteps := 1000000) (disch := first | omega | decide | assumption | simp [scal]) [e1, c1]
theorem k19 (h : List Blk) : callH LL 19 [rwV l] h = some ⟨.tuple #[iv (clrV l).1, iv (clrV l).2], h, [], []⟩ := by
  refine callH_none rfl (fun _ => rfl) (L_run rfl ?_) fun _ => rfl
  have c1 := fun h => k22 l h1 h64 h
  have a2 := fun h => @lenA_st h (markU l)
  rw [mark_len] at a2
  have lp := l19 l h1 h64 (l.length + 1) 0 (by omega)
  simp only [Int.natCast_zero] at lp
  have w1 : IntKind.i64.wrap ((l.length : Int) + 1) = (l.length : Int) + 1 := wrap_i64_id (by omega) (by omega)
  rw [run19 _ _ _ (by simp)]
  unfold clrV
  rcases hf : fstD l (l.length + 1) 0 with _ | j
  · rw [hf] at lp
    simp only [] at lp
    simp (maxSteps := 1000000) (disch := first | omega | decide | assumption | simp [scal]) [c1, a2, w1, lp]
  · rw [hf] at lp
    simp only [] at lp
    simp (maxSteps := 1000000) (disch := first | omega | decide | assumption | simp [scal]) [c1, a2, w1, lp]
end
def rowsV (es : List (List Bool)) : List Value := es.map rwV
theorem rowsV_len {es : List (List Bool)} : (rowsV es).length = es.length := by simp [rowsV]
theorem repB_snoc {l : List Bool} : ∀ c, repB l c ++ l = repB l (c + 1) := by
  intro c
  induction c with
  | zero => simp [repB]
  | succ c ih => rw [repB, List.append_assoc, ih]; rfl
theorem win_eq {l : List Bool} {k i c : Nat} (h1 : 1 ≤ l.length) (hi : i < l.length) (hc : l.length + k ≤ c * l.length) : ((repB l c).drop i).take k = winB l k i := by
  apply List.ext_getElem?
  intro x
  by_cases hx : x < k
  · rw [win_get h1 hi hx, List.getElem?_take, if_pos hx, List.getElem?_drop, rep_get h1 _ _ (by omega)]
  · rw [List.getElem?_eq_none (by rw [List.length_take]; omega), List.getElem?_eq_none (by rw [win_len hi]; omega)]
theorem slice_rep {l : List Bool} {k i c : Nat} (h1 : 1 ≤ l.length) (hi : i < l.length) (hc : l.length + k ≤ c * l.length) (h : List Blk) : sliceB h ⟨(markU (repB l c)).toArray⟩ (some (iv i)) (some (iv ((i : Int) + k))) = pureR h (rwV (winB l k i)) := by
  have hl : (repB l c).length = c * l.length := repB_len c
  have e1 : bnd (some (iv ((i : Int) + k))) (⟨(markU (repB l c)).toArray⟩ : ByteArray).size (⟨(markU (repB l c)).toArray⟩ : ByteArray).size = some (i + k) := by
    simp only [bnd, intOf, st_size, mark_len]
    rw [if_pos (by omega)]
    congr 1
  have e2 : bnd (some (iv i)) (i + k) 0 = some i := by
    simp only [bnd, intOf]
    rw [if_pos (by omega)]
    congr 1
  simp only [sliceB, e1, e2, ext_st, mark_drop, mark_take, Nat.add_sub_cancel_left]
  rw [win_eq h1 hi hc]
section
variable (l : List Bool) (k : Nat) (h1 : 1 ≤ l.length) (h64 : l.length ≤ 64) (hk : k ≤ 64)
include h1 h64 hk
theorem l37a : ∀ (q c : Nat), l.length + k ≤ c * l.length + q → c * l.length ≤ 256 → ∃ c', l.length + k ≤ c' * l.length ∧ c' * l.length ≤ 256 ∧
    lpB Try.prog LL ⟨37, 34, 0, none⟩ n37_6 n37_7 ⟨[(0, rwV l), (1, iv k), (5, rwV (repB l c))], [], []⟩ = some (.exit 0, ⟨[(0, rwV l), (1, iv k), (5, rwV (repB l c'))], [], []⟩) := by
  have a1 := fun h => @lenA_st h (markU l)
  rw [mark_len] at a1
  have w1 : IntKind.i64.wrap ((l.length : Int) + (k : Int)) = (l.length : Int) + k := wrap_i64_id (by omega) (by omega)
  intro q
  induction q with
  | zero =>
    intro c hc hm
    refine ⟨c, by omega, hm, ?_⟩
    have a2 := fun h => @lenA_st h (markU (repB l c))
    rw [mark_len, repB_len] at a2
    obtain ⟨m, hm⟩ : ∃ m, c * l.length = m := ⟨_, rfl⟩
    rw [hm] at a2 hc
    have e1 : ¬ ((m : Int) < (l.length : Int) + k) := by omega
    rw [lpB_eq]
    simp (maxSteps := 1000000) (disch := first | omega | decide | assumption | simp [scal]) [o_indexAddrS es_26, ze_26, o_buildSlice es_26 ze_26 (by decide) ba_26_1, ap_26, builtin_append ni_26, a1, a2, w1, e1]
  | succ q ih =>
    intro c hc hm
    have a2 := fun h => @lenA_st h (markU (repB l c))
    rw [mark_len, repB_len] at a2
    by_cases hd : l.length + k ≤ c * l.length
    · refine ⟨c, hd, hm, ?_⟩
      obtain ⟨m, hm⟩ : ∃ m, c * l.length = m := ⟨_, rfl⟩
      rw [hm] at a2 hc hd
      have e1 : ¬ ((m : Int) < (l.length : Int) + k) := by omega
      rw [lpB_eq]
      simp (maxSteps := 1000000) (disch := first | omega | decide | assumption | simp [scal]) [o_indexAddrS es_26, ze_26, o_buildSlice es_26 ze_26 (by decide) ba_26_1, ap_26, builtin_append ni_26, a1, a2, w1, e1]
    · obtain ⟨c', g1, g2, g3⟩ := ih (c + 1) (by rw [Nat.succ_mul]; omega) (by rw [Nat.succ_mul]; omega)
      refine ⟨c', g1, g2, ?_⟩
      have b1 := fun t cc => @bin_adds t cc (markU (repB l c)) (markU l) (by rw [mark_len, mark_len, repB_len]; omega)
      rw [← mark_app, repB_snoc] at b1
      obtain ⟨m, hm⟩ : ∃ m, c * l.length = m := ⟨_, rfl⟩
      rw [hm] at a2 hc hd
      have e1 : ((m : Int) < (l.length : Int) + k) := by omega
      clear ih
      generalize repB l (c + 1) = L2 at *
      generalize repB l c' = L3 at *
      generalize repB l c = L1 at *
      rw [lpB_eq]
      simp (maxSteps := 1000000) (disch := first | omega | decide | assumption | simp [scal]) [o_indexAddrS es_26, ze_26, o_buildSlice es_26 ze_26 (by decide) ba_26_1, ap_26, builtin_append ni_26, a1, a2, w1, e1, b1, g3]
theorem l37b (c : Nat) (hc : l.length + k ≤ c * l.length) : ∀ (q p : Nat), p + q = l.length →
    lpB Try.prog LL ⟨37, 34, 0, none⟩ n37_21 n37_22 ⟨[(1, iv k), (5, rwV (repB l c)), (6, sl 0 0 p p), (20, pp 1)], [.cells (rowsV ((List.range p).map (winB l k))) 1 true true, .siter ⟨(markU l).toArray⟩ p], []⟩ =
      some (.exit 2, ⟨[(6, sl 0 0 l.length l.length)], [.cells (rowsV ((List.range l.length).map (winB l k))) 1 true true], []⟩) := by
  intro q
  induction q with
  | zero =>
    intro p hp
    obtain rfl : p = l.length := by omega
    have n1 := @next_end [.cells (rowsV ((List.range l.length).map (winB l k))) 1 true true, .siter ⟨(markU l).toArray⟩ l.length] 1 l.length l rfl (by omega)
    generalize rowsV ((List.range l.length).map (winB l k)) = V at *
    generalize (⟨(markU l).toArray⟩ : ByteArray) = s at *
    rw [lpB_eq]
    simp (maxSteps := 1000000) (disch := first | omega | decide | assumption | simp [scal]) [o_indexAddrS es_26, ze_26, o_buildSlice es_26 ze_26 (by decide) ba_26_1, ap_26, builtin_append ni_26, siter_ptr, siter_ren, o_nextT, n1]
  | succ q ih =>
    intro p hp
    have hpl : p < l.length := by omega
    have n1 := @next_row [.cells (rowsV ((List.range p).map (winB l k))) 1 true true, .siter ⟨(markU l).toArray⟩ p] 1 p l rfl hpl
    have s1 := fun h => @slice_rep l k p c h1 hpl hc h
    have w1 : IntKind.i64.wrap ((p : Int) + (k : Int)) = (p : Int) + k := wrap_i64_id (by omega) (by omega)
    have this := ih (p + 1) (by omega)
    have c1 := fun h b c rd => app_list (h := h) (b := b) (c := c) (k := 1) (by' := 16) (l := p) (cs := rowsV ((List.range p).map (winB l k))) (new := [rwV (winB l k p)]) (rd := rd) (by simp [rowsV]) (by omega) (by omega) rfl
    rw [show rowsV ((List.range p).map (winB l k)) ++ [rwV (winB l k p)] = rowsV ((List.range (p + 1)).map (winB l k)) by simp [rowsV, List.range_succ]] at c1
    clear ih
    simp only [List.set_cons_succ, List.set_cons_zero] at n1
    generalize rowsV ((List.range l.length).map (winB l k)) = V at *
    generalize rowsV ((List.range (p + 1)).map (winB l k)) = V2 at *
    generalize rowsV ((List.range p).map (winB l k)) = V1 at *
    generalize (⟨(markU l).toArray⟩ : ByteArray) = s at *
    generalize ((cond (l.getD p false) 49 48 : Nat) : Int) = rr at *
    generalize winB l k p = w at *
    rw [show rwV (repB l c) = .string ⟨(markU (repB l c)).toArray⟩ from rfl] at *
    generalize (⟨(markU (repB l c)).toArray⟩ : ByteArray) = ls at *
    rw [lpB_eq]
    simp (maxSteps := 1000000) (disch := first | omega | decide | assumption | simp [scal]) [o_indexAddrS es_26, ze_26, o_buildSlice es_26 ze_26 (by decide) ba_26_1, ap_26, builtin_append ni_26, siter_ptr, siter_ren, o_nextT, n1, o_sliceT, s1, w1, append_some ap_26, srcCells, c1, this]
end
end Go.Proofs.Ytjimphlkhjmaiaa.sw
namespace Go.Proofs.Ytjimphlkhjmaiaa.sw
open Go.GE
set_option linter.unusedVariables false
set_option linter.unusedSimpArgs false
set_option linter.unusedSectionVars false
set_option maxRecDepth 100000
set_option maxHeartbeats 4000000
attribute [local simp] runOps_nil runOps_cons runOpsF_nil runOpsF_cons fstS_some fstF_some opStep_eq want_none oStep_true oStep_false fin_pure fin_read fin_alloc fin_write storeB wrN cellV addWr o_move o_assign o_pick o_alloc o_box o_load o_store o_nilCheck o_bin o_un o_extract o_callV o_callB o_callI callV_f callV_y callV_fc o_makeFunc partsA Instr.fill builtin_len builtin_max2 bin_add bin_sub bin_mul bin_quo bin_rem bin_lss bin_leq bin_gtr bin_geq bin_eql bin_neq un_neg un_not bin_shr bin_shl wrap_u64_id opd opds optAll putO nbeq nblt constOk isC ops sub cl cr co bodyOf thenS_normal thenS_ret thenS_exit thenS_goto afterN_normal afterN_ret afterN_exit afterN_goto condS_true condS_false blockS_normal blockS_ret blockS_exit blockS_goto headS normS normK_eq fixS_nil fixS_cons fix1 fixV emptyB keepO_nil keepO_cons roundC_normal roundC_exit roundC_ret roundC_goto sweep_eq sweepD rnm pickR pickW rootsB ptrT renT ptrFn renFn ptrB_flat ptrB_non renB_flat renB_non plainS_some drawS_some fpsOk disj unord range' dropTo enumT undef wrap_i64_id Value.cells mkCells ptrTo scal cellsAt rdN endS_ret resultsA Option.bind_some tupV finish reachN dep ptrL_eq ptrL renL_eq renL ptrV_bool ptrV_int ptrV_string ptrV_nilFunc ptrV_nilIface ptrV_nilPtr ptrV_ptr ptrV_nilSl ptrV_sl ptrV_iface ptrV_agg ptrV_tuple ptrV_func renV_bool renV_int renV_string renV_nilFunc renV_nilIface renV_nilPtr renV_ptr renV_nilSl renV_sl renV_iface renV_agg renV_tuple renV_func gotoS_goto gotoS_normal gotoS_exit gotoS_ret skip_seq sliceE bnd bndHi intOf optOpd keepT_nil keepT_cons keepC_t keepC_f lk_nil lk_cons lkC_t lkC_f has_nil has_cons hasC_t hasC_f rep_nil rep_cons repC_t repC_f put_eq putC_t putC_f mem_nil mem_cons memC_t memC_f idx_nil idx_cons idxC_t idxC_f reach_nil reachP_cons reachQ_t reachQ_f ptrB_dead renB_dead ins_eq
attribute [local simp] n37_1s n37_3s n37_9s n37_11s n37_12s n37_10s n37_8s n37_14s n37_13s n37_7s n37_6s n37_6g n37_5s n37_16s n37_19s n37_23s n37_26s n37_27s n37_25s n37_30s n37_31s n37_29s n37_28s n37_24s n37_22s n37_21s n37_21g n37_20s n37_18s n37_33s n37_34s n37_32s n37_17s n37_15s n37_4s n37_2s n37_0s Try.f37 n36_1s n36_3s n36_6s n36_10s n36_13s n36_14s n36_12s n36_18s n36_19s n36_17s n36_16s n36_20s n36_15s n36_11s n36_9s n36_8s n36_8g n36_7s n36_5s n36_22s n36_23s n36_21s n36_4s n36_2s n36_0s Try.f36
/-- the rows that the law looks at -/
def winsL (l : List Bool) (k : Nat) : List (List Bool) := (List.range l.length).map (winB l k)
section
variable (l : List Bool) (k : Nat) (h1 : 1 ≤ l.length) (h64 : l.length ≤ 64) (hk : k ≤ 64)
include h1 h64 hk
theorem k37 (h : List Blk) : callH LL 37 [rwV l, iv k] h = some ⟨sl h.length 0 l.length l.length, h ++ [.cells (rowsV (winsL l k)) 1 true true], [], []⟩ := by
  refine callN_none (v := sl 0 0 l.length l.length) (news := [.cells (rowsV (winsL l k)) 1 true true]) rfl (fun _ => rfl) (L_run rfl ?_) (fun blk hb => by
    simp only [List.mem_cons, List.not_mem_nil, or_false] at hb
    rcases hb with rfl; exact noIdB_flat) (by simp [renV_sl, dep, nblt])
  obtain ⟨c, g1, g2, g3⟩ := l37a l k h1 h64 hk (l.length + k) 1 (by omega) (by omega)
  have lp := l37b l k h1 h64 hk c g1 l.length 0 (by omega)
  have e1 : repB l 1 = l := by simp [repB]
  rw [e1] at g3
  rw [show rowsV ((List.range 0).map (winB l k)) = [] from rfl] at lp
  unfold winsL
  generalize rowsV ((List.range l.length).map (winB l k)) = V at *
  generalize repB l c = L at *
  generalize l.length = n at *
  rw [run37 _ _ _ (by simp)]
  unfold rwV st at *
  generalize (⟨(markU L).toArray⟩ : ByteArray) = sL at *
  generalize (⟨(markU l).toArray⟩ : ByteArray) = s at *
  simp (maxSteps := 1000000) (disch := first | omega | decide | assumption | simp [scal]) [o_indexAddrS es_26, ze_26, o_buildSlice es_26 ze_26 (by decide) ba_26_1, ap_26, builtin_append ni_26, siter_ptr, siter_ren, o_rangeT, g3, lp]
end
def insF : List (List Bool) → List (List Bool) → List (List Bool)
  | acc, [] => acc
  | acc, w :: ws => insF (insS acc w) ws
theorem insF_snoc : ∀ {ws acc w}, insF acc (ws ++ [w]) = insS (insF acc ws) w := by
  intro ws
  induction ws with
  | nil => intro acc w; rfl
  | cons a ws ih => intro acc w; simp only [List.cons_append, insF, ih]
theorem insS_len {acc w} : (insS acc w).length ≤ acc.length + 1 := by
  unfold insS; split <;> simp
theorem insF_len : ∀ {ws acc}, (insF acc ws).length ≤ acc.length + ws.length := by
  intro ws
  induction ws with
  | nil => intro acc; simp [insF]
  | cons a ws ih => intro acc; have := @ih (insS acc a); have := @insS_len acc a; simp only [insF, List.length_cons]; omega
theorem insF_dif (l : List Bool) (k : Nat) : ∀ (q i : Nat) (acc : List (List Bool)), decide ((insF acc (((List.range q).map fun j => winB l k (i + j)))).length = acc.length + q) = difW l k q i acc := by
  intro q
  induction q with
  | zero => intro i acc; simp [insF, difW]
  | succ q ih =>
    intro i acc
    rw [List.range_succ_eq_map, List.map_cons, List.map_map, insF, difW]
    have e : ((List.range q).map ((fun j => winB l k (i + j)) ∘ Nat.succ)) = (List.range q).map fun j => winB l k (i + 1 + j) := by
      apply List.map_congr_left
      intro j _
      show winB l k (i + (j + 1)) = _
      rw [show i + (j + 1) = i + 1 + j by omega]
    rw [e, Nat.add_zero]
    by_cases h : winB l k i ∈ acc
    · rw [if_pos h]
      have := @insF_len ((List.range q).map fun j => winB l k (i + 1 + j)) acc
      simp only [List.length_map, List.length_range] at this
      simp only [insS, if_pos h]
      exact decide_eq_false (by omega)
    · rw [if_neg h]
      simp only [insS, if_neg h]
      rw [← ih (i + 1) (acc ++ [winB l k i])]
      simp only [List.length_append, List.length_cons, List.length_nil]
      congr 1
      rw [show acc.length + (0 + 1) + q = acc.length + (q + 1) by omega]
theorem wins_dif (l : List Bool) (k : Nat) : decide ((insF [] (winsL l k)).length = l.length) = difB l k := by
  have := insF_dif l k l.length 0 []
  simp only [List.length_nil, Nat.zero_add] at this
  exact this
theorem rowsV_get {es : List (List Bool)} {i : Nat} {w : List Bool} (h : es[i]? = some w) : (rowsV es)[i]? = some (rwV w) := by simp [rowsV, h]
section
variable (es : List (List Bool)) (n : Nat) (hn : es.length = n) (n64 : n ≤ 64)
include hn n64
theorem l36 : ∀ (q i : Nat), i + q = n →
    lpB Try.prog LL ⟨36, 21, 1, none⟩ n36_8 n36_9 ⟨[(0, sl 0 0 n n), (3, .map (some 1)), (7, sl 0 0 n n), (8, iv n), (9, iv i)], [.cells (rowsV es) 1 true true, mapB (insF [] (es.take i))], []⟩ =
      some (.exit 0, ⟨[(0, sl 0 0 n n), (3, .map (some 1))], [.cells (rowsV es) 1 true true, mapB (insF [] es)], []⟩) := by
  intro q
  induction q with
  | zero =>
    intro i hi
    obtain rfl : i = n := by omega
    rw [List.take_of_length_le (by omega)]
    have p1 := @map_ptr (insF [] es)
    have p2 := fun f => @map_ren f (insF [] es)
    unfold mapB
    generalize mapS (insF [] es) = E at *
    generalize rowsV es = V at *
    rw [lpB_eq]
    simp (maxSteps := 1000000) (disch := first | omega | decide | assumption | simp [scal]) [lenA_sl lk_26, o_indexAddrS es_26, loadA_eq ia_9, ptrV_map, renV_map, p1, p2]
  | succ q ih =>
    intro i hi
    have e1 : i < n := by omega
    obtain ⟨w, hw⟩ : ∃ w, es[i]? = some w := ⟨es[i]'(by omega), List.getElem?_eq_getElem _⟩
    have g1 := rowsV_get hw
    have this := ih (i + 1) (by omega)
    simp only [cast1] at this
    rw [List.take_add_one, hw, Option.toList_some, insF_snoc] at this
    have p1 := @map_ptr (insF [] (es.take i))
    have p2 := fun f => @map_ren f (insF [] (es.take i))
    have p3 := @map_ptr (insS (insF [] (es.take i)) w)
    have p4 := fun f => @map_ren f (insS (insF [] (es.take i)) w)
    have p5 := @map_ptr (insF [] es)
    have p6 := fun f => @map_ren f (insF [] es)
    have u1 := @upd80 [.cells (rowsV es) 1 true true, mapB (insF [] (es.take i))] 1 (insF [] (es.take i)) w rfl
    simp only [List.set_cons_succ, List.set_cons_zero] at u1
    clear ih
    unfold mapB at *
    generalize mapS (insS (insF [] (es.take i)) w) = E2 at *
    generalize mapS (insF [] (es.take i)) = E1 at *
    generalize mapS (insF [] es) = E3 at *
    have e3 : i < (rowsV es).length := by rw [rowsV_len]; omega
    generalize rowsV es = V at *
    have g2 : V[i]'e3 = rwV w := by have := List.getElem?_eq_getElem e3; rw [g1] at this; exact (Option.some.inj this).symm
    rw [lpB_eq]
    simp (maxSteps := 1000000) (disch := first | omega | decide | assumption | simp [scal]) [lenA_sl lk_26, o_indexAddrS es_26, loadA_eq ia_9, ptrV_map, renV_map, p1, p2, p3, p4, e1, e3, g1, g2, o_mapU, u1, this]
theorem c36 : LL.run 36 [sl 0 0 n n] [.cells (rowsV es) 1 true true] = some ⟨.bool (decide ((insF [] es).length = n)), [], []⟩ := by
  have lp := l36 es n hn n64 n 0 (by omega)
  have hm := @insF_len es []
  rw [hn, List.length_nil] at hm
  simp only [List.take_zero, Int.natCast_zero] at lp
  have lm := @lenA_map [.cells (rowsV es) 1 true true, mapB (insF [] es)] 1 (insF [] es) rfl
  generalize (insF [] es).length = m at *
  rw [show insF [] [] = ([] : List (List Bool)) from rfl] at lp
  rw [show mapB [] = .map [] from rfl] at lp
  have p5 := @map_ptr (insF [] es)
  have p6 := fun f => @map_ren f (insF [] es)
  unfold mapB at *
  generalize mapS (insF [] es) = E3 at *
  generalize rowsV es = V at *
  have q3 : ptrB (.map []) = [] := rfl
  have q4 : ∀ f, renB f (.map []) = some (.map []) := fun f => rfl
  have mn : ((m : Int) = (n : Int)) = (m = n) := propext (by omega)
  refine L_run rfl ?_
  rw [run36 _ _ _ (by simp)]
  simp (maxSteps := 1000000) (disch := first | omega | decide | assumption | simp [scal]) [lenA_sl lk_26, o_indexAddrS es_26, loadA_eq ia_9, o_makeMap, allocR, ptrV_map, renV_map, q3, q4, p5, p6, lp, lm, mn]
theorem k36 {h : List Blk} {b : Nat} (hb : h[b]? = some (.cells (rowsV es) 1 true true)) : callH LL 36 [sl b 0 n n] h = some ⟨.bool (decide ((insF [] es).length = n)), h, [b], []⟩ :=
  callH_1 rfl hb noIdB_flat (args' := [sl 0 0 n n]) (by simp [renV_sl, dep, optAll, idx, nbeq]) (c36 es n hn n64) fun _ => rfl
end
end Go.Proofs.Ytjimphlkhjmaiaa.sw
namespace Go.Proofs.Ytjimphlkhjmaiaa.sw
open Go.GE
set_option linter.unusedVariables false
set_option linter.unusedSimpArgs false
set_option linter.unusedSectionVars false
def D (l : List Bool) (k : Nat) : Prop := ∀ i j, i < l.length → j < l.length → winB l k i = winB l k j → i = j
theorem dif_iff (l : List Bool) (k : Nat) : ∀ (q i : Nat) (acc : List (List Bool)), difW l k q i acc = true ↔ (∀ j, j < q → winB l k (i + j) ∉ acc) ∧ ∀ a b, a < q → b < q → winB l k (i + a) = winB l k (i + b) → a = b := by
  intro q
  induction q with
  | zero => intro i acc; simp only [difW]; exact ⟨fun _ => ⟨fun j h => by omega, fun a b h => by omega⟩, fun _ => trivial⟩
  | succ q ih =>
    intro i acc
    rw [difW]
    by_cases h : winB l k i ∈ acc
    · rw [if_pos h]
      refine ⟨fun h => (by cases h), fun hh => absurd h (hh.1 0 (by omega))⟩
    · rw [if_neg h, ih]
      constructor
      · rintro ⟨g1, g2⟩
        refine ⟨fun j hj => ?_, fun a b ha hb e => ?_⟩
        · cases j with
          | zero => exact h
          | succ j =>
            have := g1 j (by omega)
            rw [show i + 1 + j = i + (j + 1) by omega] at this
            exact fun hc => this (List.mem_append_left _ hc)
        · cases a with
          | zero => cases b with
            | zero => rfl
            | succ b =>
              have := g1 b (by omega)
              rw [show i + 1 + b = i + (b + 1) by omega, ← e] at this
              exact absurd (List.mem_append_right _ (by simp)) this
          | succ a => cases b with
            | zero =>
              have := g1 a (by omega)
              rw [show i + 1 + a = i + (a + 1) by omega, e] at this
              exact absurd (List.mem_append_right _ (by simp)) this
            | succ b =>
              have := g2 a b (by omega) (by omega) (by rw [show i + 1 + a = i + (a + 1) by omega, show i + 1 + b = i + (b + 1) by omega]; exact e)
              omega
      · rintro ⟨g1, g2⟩
        refine ⟨fun j hj hc => ?_, fun a b ha hb e => ?_⟩
        · rcases List.mem_append.1 hc with hc | hc
          · have := g1 (j + 1) (by omega)
            rw [show i + 1 + j = i + (j + 1) by omega] at hc
            exact this hc
          · have := g2 (j + 1) 0 (by omega) (by omega) (by rw [show i + (j + 1) = i + 1 + j by omega]; exact List.mem_singleton.1 hc)
            omega
        · have := g2 (a + 1) (b + 1) (by omega) (by omega) (by rw [show i + (a + 1) = i + 1 + a by omega, show i + (b + 1) = i + 1 + b by omega]; exact e)
          omega
theorem difB_iff {l : List Bool} {k : Nat} : difB l k = true ↔ D l k := by
  rw [difB, dif_iff]
  constructor
  · rintro ⟨_, h⟩ i j hi hj e
    exact h i j hi hj (by rw [Nat.zero_add, Nat.zero_add]; exact e)
  · intro h
    refine ⟨fun j _ => by simp, fun a b ha hb e => h a b ha hb ?_⟩
    rw [Nat.zero_add, Nat.zero_add] at e; exact e
theorem mod_two {a n : Nat} (h : a ≤ 2 * n) (hn : 1 ≤ n) : a < n ∧ a % n = a ∨ n ≤ a ∧ a < 2 * n ∧ a % n = a - n ∨ a = 2 * n ∧ a % n = 0 := by
  by_cases h1 : a < n
  · exact .inl ⟨h1, Nat.mod_eq_of_lt h1⟩
  · by_cases h2 : a < 2 * n
    · exact .inr (.inl ⟨by omega, h2, by rw [Nat.mod_eq_sub_mod (by omega), Nat.mod_eq_of_lt (by omega)]⟩)
    · obtain rfl : a = 2 * n := by omega
      exact .inr (.inr ⟨rfl, Nat.mul_mod_left 2 n⟩)
theorem D_turn {l : List Bool} {k t : Nat} (h1 : 1 ≤ l.length) (ht : t < l.length) (h : D l k) : D (turnB l t) k := by
  have hl : (turnB l t).length = l.length := turn_len (Nat.le_of_lt ht)
  have key : ∀ i, i < l.length → winB (turnB l t) k i = winB l k ((i + t) % l.length) := by
    intro i hi
    have hm : (i + t) % l.length < l.length := Nat.mod_lt _ h1
    apply List.ext_getElem?
    intro x
    by_cases hx : x < k
    · rw [win_get (by omega) (by omega) hx, win_get h1 hm hx, hl, turn_get (Nat.le_of_lt ht) (Nat.mod_lt _ h1)]
      congr 1
      rw [Nat.mod_add_mod, Nat.mod_add_mod]
      congr 1
      omega
    · rw [List.getElem?_eq_none (by rw [win_len (by omega)]; omega), List.getElem?_eq_none (by rw [win_len hm]; omega)]
  intro i j hi hj e
  rw [hl] at hi hj
  rw [key i hi, key j hj] at e
  have := h _ _ (Nat.mod_lt _ h1) (Nat.mod_lt _ h1) e
  have m1 := @mod_two (i + t) l.length (by omega) h1
  have m2 := @mod_two (j + t) l.length (by omega) h1
  omega
theorem D_rev {l : List Bool} {k : Nat} (h1 : 1 ≤ l.length) (hk : k ≤ l.length) (h : D l k) : D l.reverse k := by
  have hl : l.reverse.length = l.length := List.length_reverse
  have key : ∀ i, i < l.length → winB l.reverse k i = (winB l k ((2 * l.length - i - k) % l.length)).reverse := by
    intro i hi
    have hm : (2 * l.length - i - k) % l.length < l.length := Nat.mod_lt _ h1
    apply List.ext_getElem?
    intro x
    by_cases hx : x < k
    · have r1 : (winB l k ((2 * l.length - i - k) % l.length)).reverse[x]? = (winB l k ((2 * l.length - i - k) % l.length))[k - 1 - x]? := by
        rw [List.getElem?_reverse (by rw [win_len hm]; exact hx), win_len hm]
      have r2 : l.reverse[(i + x) % l.length]? = l[l.length - 1 - (i + x) % l.length]? := List.getElem?_reverse (Nat.mod_lt _ h1)
      rw [win_get (by omega) (by omega) hx, hl, r1, r2, win_get h1 hm (by omega)]
      congr 1
      have m1 := @mod_two (i + x) l.length (by omega) h1
      have m2 := @mod_two (2 * l.length - i - k) l.length (by omega) h1
      have m3 := @mod_two ((2 * l.length - i - k) % l.length + (k - 1 - x)) l.length (by omega) h1
      omega
    · rw [List.getElem?_eq_none (by rw [win_len (by omega)]; omega), List.getElem?_eq_none (by rw [List.length_reverse, win_len hm]; omega)]
  intro i j hi hj e
  rw [hl] at hi hj
  rw [key i hi, key j hj] at e
  have := h _ _ (Nat.mod_lt _ h1) (Nat.mod_lt _ h1) (List.reverse_inj.1 e)
  have m1 := @mod_two (2 * l.length - i - k) l.length (by omega) h1
  have m2 := @mod_two (2 * l.length - j - k) l.length (by omega) h1
  omega
def notL (l : List Bool) : List Bool := l.map (!·)
theorem not_not {l : List Bool} : notL (notL l) = l := by simp [notL, Function.comp_def]
theorem D_not {l : List Bool} {k : Nat} (h1 : 1 ≤ l.length) (h : D l k) : D (notL l) k := by
  have hl : (notL l).length = l.length := by simp [notL]
  have key : ∀ i, i < l.length → winB (notL l) k i = notL (winB l k i) := by
    intro i hi
    apply List.ext_getElem?
    intro x
    by_cases hx : x < k
    · rw [win_get (by omega) (by omega) hx, hl]
      simp only [notL, List.getElem?_map]
      rw [win_get h1 hi hx]
    · rw [List.getElem?_eq_none (by rw [win_len (by omega)]; omega), List.getElem?_eq_none (by simp only [notL, List.length_map]; rw [win_len hi]; omega)]
  intro i j hi hj e
  rw [hl] at hi hj
  rw [key i hi, key j hj] at e
  have := congrArg notL e
  rw [not_not, not_not] at this
  exact h i j hi hj this
theorem dif_turn {l : List Bool} {k t : Nat} (h1 : 1 ≤ l.length) (ht : t < l.length) : difB (turnB l t) k = difB l k := by
  have hl : (turnB l t).length = l.length := turn_len (Nat.le_of_lt ht)
  rw [Bool.eq_iff_iff, difB_iff, difB_iff]
  refine ⟨fun h => ?_, D_turn h1 ht⟩
  by_cases e : t = 0
  · subst e; rwa [turn_zero] at h
  · have := D_turn (l := turnB l t) (t := l.length - t) (by omega) (by omega) h
    rwa [turn_back h1 ht] at this
theorem dif_rev {l : List Bool} {k : Nat} (h1 : 1 ≤ l.length) (hk : k ≤ l.length) : difB l.reverse k = difB l k := by
  have hl : l.reverse.length = l.length := List.length_reverse
  rw [Bool.eq_iff_iff, difB_iff, difB_iff]
  refine ⟨fun h => ?_, D_rev h1 hk⟩
  have := D_rev (by omega) (by omega) h
  rwa [List.reverse_reverse] at this
theorem dif_not {l : List Bool} {k : Nat} (h1 : 1 ≤ l.length) : difB (notL l) k = difB l k := by
  have hl : (notL l).length = l.length := by simp [notL]
  rw [Bool.eq_iff_iff, difB_iff, difB_iff]
  refine ⟨fun h => ?_, D_not h1⟩
  have := D_not (by omega) h
  rwa [not_not] at this
theorem fst_congr {l l' : List Bool} : ∀ (q k : Nat), (∀ j, k ≤ j → j < k + q → difB l' j = difB l j) → fstD l' q k = fstD l q k := by
  intro q
  induction q with
  | zero => intro k h; rfl
  | succ q ih =>
    intro k h
    simp only [fstD, h k (by omega) (by omega), ih (k + 1) (fun j a b => h j (by omega) (by omega))]
theorem clr_congr {l l' : List Bool} (hl : l'.length = l.length) (h : ∀ j, j ≤ l.length → difB l' j = difB l j) : clrV l' = clrV l := by
  unfold clrV
  rw [hl, fst_congr _ _ fun j _ hj => h j (by omega)]
theorem fst_ok (l : List Bool) : ∀ (q k : Nat), match fstD l q k with
    | some j => k ≤ j ∧ j < k + q ∧ difB l j = true ∧ ∀ i, k ≤ i → i < j → difB l i = false
    | none => ∀ i, k ≤ i → i < k + q → difB l i = false := by
  intro q
  induction q with
  | zero => intro k; simp only [fstD]; intro i h1 h2; omega
  | succ q ih =>
    intro k
    simp only [fstD]
    by_cases h : difB l k = true
    · simp only [h, if_true]
      exact ⟨Nat.le_refl _, by omega, trivial, fun i h1 h2 => by omega⟩
    · have hf : difB l k = false := by simpa using h
      simp only [hf, Bool.false_eq_true, if_false]
      have := ih (k + 1)
      cases hd : fstD l q (k + 1) with
      | none =>
        rw [hd] at this
        intro i h1 h2
        by_cases e : i = k
        · subst e; exact hf
        · exact this i (by omega) (by omega)
      | some j =>
        rw [hd] at this
        obtain ⟨g1, g2, g3, g4⟩ := this
        refine ⟨by omega, by omega, g3, fun i h1 h2 => ?_⟩
        by_cases e : i = k
        · subst e; exact hf
        · exact g4 i (by omega) h2
theorem clr_ok (l : List Bool) : (clrV l = (0, 14) ∧ difB l l.length = false) ∨ ∃ j, clrV l = (j, 0) ∧ j ≤ l.length ∧ difB l j = true ∧ ∀ i, i < j → difB l i = false := by
  have := fst_ok l (l.length + 1) 0
  unfold clrV
  cases hd : fstD l (l.length + 1) 0 with
  | none => rw [hd] at this; exact .inl ⟨rfl, this _ (by omega) (by omega)⟩
  | some j => rw [hd] at this; exact .inr ⟨j, rfl, by omega, this.2.2.1, fun i hi => this.2.2.2 i (by omega) hi⟩
end Go.Proofs.Ytjimphlkhjmaiaa.sw
namespace Go.Proofs.Ytjimphlkhjmaiaa.sw
open Go.GE
set_option linter.unusedVariables false
set_option linter.unusedSimpArgs false
set_option linter.unusedSectionVars false
set_option maxRecDepth 100000
set_option maxHeartbeats 4000000
attribute [local simp] runOps_nil runOps_cons runOpsF_nil runOpsF_cons fstS_some fstF_some opStep_eq want_none oStep_true oStep_false fin_pure fin_read fin_alloc fin_write storeB wrN cellV addWr o_move o_assign o_pick o_alloc o_box o_load o_store o_nilCheck o_bin o_un o_extract o_callV o_callB o_callI callV_f callV_y callV_fc o_makeFunc partsA Instr.fill builtin_len builtin_max2 bin_add bin_sub bin_mul bin_quo bin_rem bin_lss bin_leq bin_gtr bin_geq bin_eql bin_neq un_neg un_not bin_shr bin_shl wrap_u64_id opd opds optAll putO nbeq nblt constOk isC ops sub cl cr co bodyOf thenS_normal thenS_ret thenS_exit thenS_goto afterN_normal afterN_ret afterN_exit afterN_goto condS_true condS_false blockS_normal blockS_ret blockS_exit blockS_goto headS normS normK_eq fixS_nil fixS_cons fix1 fixV emptyB keepO_nil keepO_cons roundC_normal roundC_exit roundC_ret roundC_goto sweep_eq sweepD rnm pickR pickW rootsB ptrT renT ptrFn renFn ptrB_flat ptrB_non renB_flat renB_non plainS_some drawS_some fpsOk disj unord range' dropTo enumT undef wrap_i64_id Value.cells mkCells ptrTo scal cellsAt rdN endS_ret resultsA Option.bind_some tupV finish reachN dep ptrL_eq ptrL renL_eq renL ptrV_bool ptrV_int ptrV_string ptrV_nilFunc ptrV_nilIface ptrV_nilPtr ptrV_ptr ptrV_nilSl ptrV_sl ptrV_iface ptrV_agg ptrV_tuple ptrV_func renV_bool renV_int renV_string renV_nilFunc renV_nilIface renV_nilPtr renV_ptr renV_nilSl renV_sl renV_iface renV_agg renV_tuple renV_func gotoS_goto gotoS_normal gotoS_exit gotoS_ret skip_seq sliceE bnd bndHi intOf optOpd keepT_nil keepT_cons keepC_t keepC_f lk_nil lk_cons lkC_t lkC_f has_nil has_cons hasC_t hasC_f rep_nil rep_cons repC_t repC_f put_eq putC_t putC_f mem_nil mem_cons memC_t memC_f idx_nil idx_cons idxC_t idxC_f reach_nil reachP_cons reachQ_t reachQ_f ptrB_dead renB_dead ins_eq
attribute [local simp] n8_1s n8_3s n8_5s n8_7s n8_10s n8_14s n8_17s n8_18s n8_16s n8_21s n8_23s n8_24s n8_22s n8_20s n8_19s n8_15s n8_13s n8_12s n8_12g n8_11s n8_9s n8_27s n8_31s n8_34s n8_35s n8_33s n8_39s n8_41s n8_43s n8_46s n8_47s n8_45s n8_48s n8_44s n8_42s n8_40s n8_38s n8_37s n8_49s n8_36s n8_32s n8_30s n8_29s n8_29g n8_28s n8_26s n8_52s n8_55s n8_56s n8_54s n8_57s n8_53s n8_51s n8_59s n8_60s n8_58s n8_50s n8_25s n8_8s n8_6s n8_4s n8_2s n8_0s Try.f8
theorem slice_one {l : List Bool} {p : Nat} {b : Bool} (hb : l[p]? = some b) (h : List Blk) : sliceB h ⟨(markU l).toArray⟩ (some (iv p)) (some (iv ((p : Int) + 1))) = pureR h (rwV [b]) := by
  have hp : p < l.length := (List.getElem?_eq_some_iff.1 hb).1
  have e1 : bnd (some (iv ((p : Int) + 1))) (⟨(markU l).toArray⟩ : ByteArray).size (⟨(markU l).toArray⟩ : ByteArray).size = some (p + 1) := by
    simp only [bnd, intOf, st_size, mark_len]
    rw [if_pos (by omega)]
    congr 1
  have e2 : bnd (some (iv p)) (p + 1) 0 = some p := by
    simp only [bnd, intOf]
    rw [if_pos (by omega)]
    congr 1
  have e3 : (l.drop p).take 1 = [b] := by
    rw [List.drop_eq_getElem_cons hp]
    simp [(List.getElem?_eq_some_iff.1 hb).2]
  simp only [sliceB, e1, e2, ext_st, mark_drop, mark_take, Nat.add_sub_cancel_left, e3]
theorem mark_at {l : List Bool} {p : Nat} {b : Bool} (hb : l[p]? = some b) : (⟨(markU l).toArray⟩ : ByteArray)[p]? = some (bitU b) := by
  have hp : p < l.length := (List.getElem?_eq_some_iff.1 hb).1
  have hs : p < (⟨(markU l).toArray⟩ : ByteArray).size := by rw [st_size, mark_len]; exact hp
  rw [getElem?_pos (⟨(markU l).toArray⟩ : ByteArray) p hs]
  congr 1
  show (markU l).toArray[p]'_ = _
  simp [markU, (List.getElem?_eq_some_iff.1 hb).2]
section
variable (l : List Bool) (c K E : Nat) (h1 : 1 ≤ l.length) (h64 : l.length ≤ 64)
include h1 h64
theorem l8a : ∀ (q p : Nat), p + q = l.length →
    lpB Try.prog LL ⟨8, 115, 0, none⟩ n8_12 n8_13 ⟨[(1, uv c), (5, rwV l), (6, iv K), (7, iv E), (8, rwV (l.take p).reverse), (9, rwV (notL (l.take p))), (23, pp 0)], [.siter ⟨(markU l).toArray⟩ p], []⟩ =
      some (.exit 0, ⟨[(1, uv c), (5, rwV l), (6, iv K), (7, iv E), (8, rwV l.reverse), (9, rwV (notL l))], [], []⟩) := by
  intro q
  induction q with
  | zero =>
    intro p hp
    rw [List.take_of_length_le (by omega)]
    have n1 := @next_end [.siter ⟨(markU l).toArray⟩ p] 0 p l rfl (by omega)
    unfold rwV st at *
    generalize (⟨(markU l).toArray⟩ : ByteArray) = s at *
    rw [lpB_eq]
    simp (maxSteps := 1000000) (disch := first | omega | decide | assumption | simp [scal]) [loadA_eq ia_46, o_indexAddrS es_51, ze_51, o_buildSlice es_51 ze_51 (by decide) ba_51_1, o_convI cv_5_3, o_indexAddrS es_26, ze_26, o_buildSlice es_26 ze_26 (by decide) ba_26_3, lenA_sl lk_26, loadA_eq ia_9, want_some q8_43g3, want_some q8_55g6, want_some q8_59g2, want_some q8_59g6, want_some q8_59g12, want_some q8_59g18, want_some q8_59g21, want_some q8_59g30, siter_ptr, siter_ren, o_nextT, n1]
  | succ q ih =>
    intro p hp
    have hpl : p < l.length := by omega
    have n1 := @next_row [.siter ⟨(markU l).toArray⟩ p] 0 p l rfl hpl
    obtain ⟨b, hb⟩ : ∃ b, l[p]? = some b := ⟨l[p]'hpl, List.getElem?_eq_getElem _⟩
    have this := ih (p + 1) (by omega)
    rw [List.take_add_one, hb, Option.toList_some, List.reverse_append] at this
    rw [show notL (l.take p ++ [b]) = notL (l.take p) ++ [!b] by simp [notL], show [b].reverse = [b] from rfl] at this
    have s1 := fun h => slice_one hb h
    have s2 := mark_at hb
    have b1 := fun t cc => @bin_adds t cc (markU [b]) (markU (l.take p).reverse) (by rw [mark_len, mark_len]; simp; omega)
    have b2 := fun t cc => @bin_adds t cc (markU (notL (l.take p))) (markU [!b]) (by rw [mark_len, mark_len]; simp [notL]; omega)
    rw [← mark_app] at b1 b2
    obtain ⟨r, hv⟩ : ∃ r, uv (cond (!b) 49 48) = .int .u8 r := ⟨_, rfl⟩
    have x1 : ∀ cc, binA Try.prog .xor 5 cc (.int .u8 ((bitU b).toNat : Int)) (.int .u8 1) = some (.int .u8 r) := fun cc => by rw [← hv]; cases b <;> rfl
    have c1 := @conS_mark [.siter ⟨(markU l).toArray⟩ (p + 1), .cells (markV [!b]) 1 true true] 1 1 1 [!b] true true rfl rfl (by decide)
    rw [show markV [!b] = [uv (cond (!b) 49 48)] from rfl, hv] at c1
    have w1 : IntKind.i64.wrap ((p : Int) + 1) = (p : Int) + 1 := wrap_i64_id (by omega) (by omega)
    have e0 : (0 : Int) ≤ (p : Int) := by omega
    clear ih
    simp only [List.set_cons_zero] at n1
    generalize ([b] ++ (l.take p).reverse) = R2 at *
    generalize (l.take p).reverse = R1 at *
    generalize (notL (l.take p) ++ [!b]) = N2 at *
    generalize notL (l.take p) = N1 at *
    generalize ((cond (l.getD p false) 49 48 : Nat) : Int) = rr at *
    clear hv
    unfold rwV st at *
    generalize (⟨(markU l).toArray⟩ : ByteArray) = s at *
    rw [lpB_eq]
    simp (maxSteps := 1000000) (disch := first | omega | decide | assumption | simp [scal]) [loadA_eq ia_46, o_indexAddrS es_51, ze_51, o_buildSlice es_51 ze_51 (by decide) ba_51_1, o_convI cv_5_3, o_indexAddrS es_26, ze_26, o_buildSlice es_26 ze_26 (by decide) ba_26_3, lenA_sl lk_26, loadA_eq ia_9, want_some q8_43g3, want_some q8_55g6, want_some q8_59g2, want_some q8_59g6, want_some q8_59g12, want_some q8_59g18, want_some q8_59g21, want_some q8_59g30, siter_ptr, siter_ren, o_nextT, n1, o_sliceT, s1, o_indexT, s2, b1, b2, x1, o_conT, c1, w1, e0, this]
end
end Go.Proofs.Ytjimphlkhjmaiaa.sw
namespace Go.Proofs.Ytjimphlkhjmaiaa.sw
open Go.GE
set_option linter.unusedVariables false
set_option linter.unusedSimpArgs false
set_option linter.unusedSectionVars false
set_option maxRecDepth 100000
set_option maxHeartbeats 4000000
attribute [local simp] runOps_nil runOps_cons runOpsF_nil runOpsF_cons fstS_some fstF_some opStep_eq want_none oStep_true oStep_false fin_pure fin_read fin_alloc fin_write storeB wrN cellV addWr o_move o_assign o_pick o_alloc o_box o_load o_store o_nilCheck o_bin o_un o_extract o_callV o_callB o_callI callV_f callV_y callV_fc o_makeFunc partsA Instr.fill builtin_len builtin_max2 bin_add bin_sub bin_mul bin_quo bin_rem bin_lss bin_leq bin_gtr bin_geq bin_eql bin_neq un_neg un_not bin_shr bin_shl wrap_u64_id opd opds optAll putO nbeq nblt constOk isC ops sub cl cr co bodyOf thenS_normal thenS_ret thenS_exit thenS_goto afterN_normal afterN_ret afterN_exit afterN_goto condS_true condS_false blockS_normal blockS_ret blockS_exit blockS_goto headS normS normK_eq fixS_nil fixS_cons fix1 fixV emptyB keepO_nil keepO_cons roundC_normal roundC_exit roundC_ret roundC_goto sweep_eq sweepD rnm pickR pickW rootsB ptrT renT ptrFn renFn ptrB_flat ptrB_non renB_flat renB_non plainS_some drawS_some fpsOk disj unord range' dropTo enumT undef wrap_i64_id Value.cells mkCells ptrTo scal cellsAt rdN endS_ret resultsA Option.bind_some tupV finish reachN dep ptrL_eq ptrL renL_eq renL ptrV_bool ptrV_int ptrV_string ptrV_nilFunc ptrV_nilIface ptrV_nilPtr ptrV_ptr ptrV_nilSl ptrV_sl ptrV_iface ptrV_agg ptrV_tuple ptrV_func renV_bool renV_int renV_string renV_nilFunc renV_nilIface renV_nilPtr renV_ptr renV_nilSl renV_sl renV_iface renV_agg renV_tuple renV_func gotoS_goto gotoS_normal gotoS_exit gotoS_ret skip_seq sliceE bnd bndHi intOf optOpd keepT_nil keepT_cons keepC_t keepC_f lk_nil lk_cons lkC_t lkC_f has_nil has_cons hasC_t hasC_f rep_nil rep_cons repC_t repC_f put_eq putC_t putC_f mem_nil mem_cons memC_t memC_f idx_nil idx_cons idxC_t idxC_f reach_nil reachP_cons reachQ_t reachQ_f ptrB_dead renB_dead ins_eq
attribute [local simp] n8_1s n8_3s n8_5s n8_7s n8_10s n8_14s n8_17s n8_18s n8_16s n8_21s n8_23s n8_24s n8_22s n8_20s n8_19s n8_15s n8_13s n8_12s n8_12g n8_11s n8_9s n8_27s n8_31s n8_34s n8_35s n8_33s n8_39s n8_41s n8_43s n8_46s n8_47s n8_45s n8_48s n8_44s n8_42s n8_40s n8_38s n8_37s n8_49s n8_36s n8_32s n8_30s n8_29s n8_29g n8_28s n8_26s n8_52s n8_55s n8_56s n8_54s n8_57s n8_53s n8_51s n8_59s n8_60s n8_58s n8_50s n8_25s n8_8s n8_6s n8_4s n8_2s n8_0s Try.f8
section
variable (l : List Bool) (h1 : 1 ≤ l.length) (h64 : l.length ≤ 64)
include h1 h64
theorem l8b (t : Nat) (ht : t < l.length) :
    lpB Try.prog LL ⟨8, 115, 0, none⟩ n8_29 n8_30 ⟨[(5, rwV l), (6, iv (clrV l).1), (7, iv (clrV l).2), (51, sl 0 0 3 3), (52, iv 3), (53, iv 0)], [.cells [rwV (turnB l t), rwV l.reverse, rwV (notL l)] 1 true true], []⟩ =
      some (.exit 2, ⟨[(5, rwV l), (6, iv (clrV l).1), (7, iv (clrV l).2)], [], []⟩) := by
  have hl1 : (turnB l t).length = l.length := turn_len (Nat.le_of_lt ht)
  have hl2 : l.reverse.length = l.length := List.length_reverse
  have hl3 : (notL l).length = l.length := by simp [notL]
  have a1 := fun h => k19 (turnB l t) (by omega) (by omega) h
  have a2 := fun h => k19 l.reverse (by omega) (by omega) h
  have a3 := fun h => k19 (notL l) (by omega) (by omega) h
  rw [clr_congr hl1 fun j _ => dif_turn h1 ht] at a1
  rw [clr_congr hl2 fun j hj => dif_rev h1 hj] at a2
  rw [clr_congr hl3 fun j _ => dif_not h1] at a3
  generalize turnB l t = x1 at *
  generalize l.reverse = x2 at *
  generalize notL l = x3 at *
  generalize (clrV l).1 = K at *
  generalize (clrV l).2 = E at *
  clear hl1 hl2 hl3
  have s3 : lpB Try.prog LL ⟨8, 115, 0, none⟩ n8_29 n8_30 ⟨[(5, rwV l), (6, iv K), (7, iv E), (51, sl 0 0 3 3), (52, iv 3), (53, iv 3)], [.cells [rwV x1, rwV x2, rwV x3] 1 true true], []⟩ =
      some (.exit 2, ⟨[(5, rwV l), (6, iv K), (7, iv E)], [], []⟩) := by
    rw [lpB_eq]
    simp (maxSteps := 1000000) (disch := first | omega | decide | assumption | simp [scal]) [loadA_eq ia_46, o_indexAddrS es_51, ze_51, o_buildSlice es_51 ze_51 (by decide) ba_51_1, o_convI cv_5_3, o_indexAddrS es_26, ze_26, o_buildSlice es_26 ze_26 (by decide) ba_26_3, lenA_sl lk_26, loadA_eq ia_9, want_some q8_43g3, want_some q8_55g6, want_some q8_59g2, want_some q8_59g6, want_some q8_59g12, want_some q8_59g18, want_some q8_59g21, want_some q8_59g30]
  have s2 : lpB Try.prog LL ⟨8, 115, 0, none⟩ n8_29 n8_30 ⟨[(5, rwV l), (6, iv K), (7, iv E), (51, sl 0 0 3 3), (52, iv 3), (53, iv 2)], [.cells [rwV x1, rwV x2, rwV x3] 1 true true], []⟩ =
      some (.exit 2, ⟨[(5, rwV l), (6, iv K), (7, iv E)], [], []⟩) := by
    rw [lpB_eq]
    simp (maxSteps := 1000000) (disch := first | omega | decide | assumption | simp [scal]) [loadA_eq ia_46, o_indexAddrS es_51, ze_51, o_buildSlice es_51 ze_51 (by decide) ba_51_1, o_convI cv_5_3, o_indexAddrS es_26, ze_26, o_buildSlice es_26 ze_26 (by decide) ba_26_3, lenA_sl lk_26, loadA_eq ia_9, want_some q8_43g3, want_some q8_55g6, want_some q8_59g2, want_some q8_59g6, want_some q8_59g12, want_some q8_59g18, want_some q8_59g21, want_some q8_59g30, a3, s3]
  have s1 : lpB Try.prog LL ⟨8, 115, 0, none⟩ n8_29 n8_30 ⟨[(5, rwV l), (6, iv K), (7, iv E), (51, sl 0 0 3 3), (52, iv 3), (53, iv 1)], [.cells [rwV x1, rwV x2, rwV x3] 1 true true], []⟩ =
      some (.exit 2, ⟨[(5, rwV l), (6, iv K), (7, iv E)], [], []⟩) := by
    rw [lpB_eq]
    simp (maxSteps := 1000000) (disch := first | omega | decide | assumption | simp [scal]) [loadA_eq ia_46, o_indexAddrS es_51, ze_51, o_buildSlice es_51 ze_51 (by decide) ba_51_1, o_convI cv_5_3, o_indexAddrS es_26, ze_26, o_buildSlice es_26 ze_26 (by decide) ba_26_3, lenA_sl lk_26, loadA_eq ia_9, want_some q8_43g3, want_some q8_55g6, want_some q8_59g2, want_some q8_59g6, want_some q8_59g12, want_some q8_59g18, want_some q8_59g21, want_some q8_59g30, a2, s2]
  rw [lpB_eq]
  simp (maxSteps := 1000000) (disch := first | omega | decide | assumption | simp [scal]) [loadA_eq ia_46, o_indexAddrS es_51, ze_51, o_buildSlice es_51 ze_51 (by decide) ba_51_1, o_convI cv_5_3, o_indexAddrS es_26, ze_26, o_buildSlice es_26 ze_26 (by decide) ba_26_3, lenA_sl lk_26, loadA_eq ia_9, want_some q8_43g3, want_some q8_55g6, want_some q8_59g2, want_some q8_59g6, want_some q8_59g12, want_some q8_59g18, want_some q8_59g21, want_some q8_59g30, a1, s1]
end
theorem c8 (B C t : Nat) (hB : B < 2 ^ 64) (hC : C < 256) (ht : t < 256) : LL.run 8 [lpV B C, uv t] [] = some ⟨.bool true, [], []⟩ := by
  have c1 := fun h => k33 B C hB hC h
  obtain ⟨l, hl⟩ : ∃ l, bitL B (1 + C % 64) = l := ⟨_, rfl⟩
  have hn : l.length = 1 + C % 64 := by rw [← hl, bitL_len]
  have h1 : 1 ≤ l.length := by omega
  have h64 : l.length ≤ 64 := by omega
  rw [hl] at c1
  clear hl hn
  have c2 := fun h => k19 l h1 h64 h
  have lpa := l8a l t (clrV l).1 (clrV l).2 h1 h64 l.length 0 (by omega)
  rw [show rwV (l.take 0).reverse = .string ⟨#[]⟩ from rfl, show rwV (notL (l.take 0)) = .string ⟨#[]⟩ from rfl] at lpa
  have hj : t % l.length < l.length := Nat.mod_lt _ h1
  have lpb := l8b l h1 h64 (t % l.length) hj
  have c4 := fun h => k35 l (t % l.length) (by omega) (by omega) h
  have w0 : IntKind.i64.wrap (t : Int) = t := wrap_nn (by omega)
  have tm : Int.tmod (t : Int) (l.length : Int) = ((t % l.length : Nat) : Int) := rfl
  have w1 : IntKind.i64.wrap ((t % l.length : Nat) : Int) = ((t % l.length : Nat) : Int) := wrap_nn (by omega)
  have a2 := fun h => @lenA_st h (markU l)
  rw [mark_len] at a2
  have z0 : ¬ ((l.length : Int) = 0) := by omega
  have z1 : ¬ l = [] := fun e => by rw [e] at h1; simp at h1
  have w37 := fun k (hk : k ≤ 64) h => k37 l k h1 h64 hk h
  have w36 := fun k h b hb => @k36 (winsL l k) l.length (by simp [winsL]) h64 h b hb
  simp only [wins_dif] at w36
  have hcl := clr_ok l
  generalize turnB l (t % l.length) = tl at *
  generalize t % l.length = tj at *
  generalize l.reverse = lr at *
  generalize notL l = ln at *
  refine L_run rfl ?_
  rw [run8 _ _ _ (by simp)]
  rcases hcl with ⟨e, d1⟩ | ⟨j, e, hjn, d1, d2⟩
  · rw [e] at c2 lpa lpb
    simp only [Int.natCast_zero, Int.cast_ofNat_Int] at c2 lpa lpb
    have x1 := fun h => w37 l.length h64 h
    have x2 := w36 l.length [.cells (rowsV (winsL l l.length)) 1 true true] 0 rfl
    rw [d1] at x2
    unfold rwV st at *
    generalize (⟨(markU l).toArray⟩ : ByteArray) = s at *
    generalize rowsV (winsL l l.length) = V at *
    simp (maxSteps := 1000000) (disch := first | omega | decide | assumption | simp [scal]) [loadA_eq ia_46, o_indexAddrS es_51, ze_51, o_buildSlice es_51 ze_51 (by decide) ba_51_1, o_convI cv_5_3, o_indexAddrS es_26, ze_26, o_buildSlice es_26 ze_26 (by decide) ba_26_3, lenA_sl lk_26, loadA_eq ia_9, want_some q8_43g3, want_some q8_55g6, want_some q8_59g2, want_some q8_59g6, want_some q8_59g12, want_some q8_59g18, want_some q8_59g21, want_some q8_59g30, siter_ptr, siter_ren, o_rangeT, c1, c2, lpa, lpb, c4, w0, tm, w1, a2, z0, z1, x1, x2, k14]
  · rw [e] at c2 lpa lpb
    simp only [Int.natCast_zero, Int.cast_ofNat_Int] at c2 lpa lpb
    have x1 := fun h => w37 j (by omega) h
    have x2 := w36 j [.cells (rowsV (winsL l j)) 1 true true] 0 rfl
    rw [d1] at x2
    have e1 : (0 : Int) ≤ (j : Int) := by omega
    have e2 : (j : Int) ≤ (l.length : Int) := by omega
    have e3 : ¬ (j : Int) < 0 := by omega
    have e4 : (j ≤ l.length) = True := eq_true hjn
    by_cases hj0 : j = 0
    · subst hj0
      simp only [Int.natCast_zero] at x1 x2 c2 lpa lpb
      unfold rwV st at *
      generalize (⟨(markU l).toArray⟩ : ByteArray) = s at *
      generalize rowsV (winsL l 0) = V at *
      simp (maxSteps := 1000000) (disch := first | omega | decide | assumption | simp [scal]) [loadA_eq ia_46, o_indexAddrS es_51, ze_51, o_buildSlice es_51 ze_51 (by decide) ba_51_1, o_convI cv_5_3, o_indexAddrS es_26, ze_26, o_buildSlice es_26 ze_26 (by decide) ba_26_3, lenA_sl lk_26, loadA_eq ia_9, want_some q8_43g3, want_some q8_55g6, want_some q8_59g2, want_some q8_59g6, want_some q8_59g12, want_some q8_59g18, want_some q8_59g21, want_some q8_59g30, siter_ptr, siter_ren, o_rangeT, c1, c2, lpa, lpb, c4, w0, tm, w1, a2, z0, z1, x1, x2, k14, e2, e4]
    · obtain ⟨m, rfl⟩ : ∃ m, j = m + 1 := ⟨j - 1, by omega⟩
      have x3 := fun h => w37 m (by omega) h
      have x4 := w36 m [.cells (rowsV (winsL l (m + 1))) 1 true true, .cells (rowsV (winsL l m)) 1 true true] 1 rfl
      rw [d2 m (by omega)] at x4
      have w2 : IntKind.i64.wrap (((m + 1 : Nat) : Int) - 1) = (m : Int) := by rw [wrap_i64_id (by omega) (by omega)]; omega
      have e5 : ¬ (((m + 1 : Nat) : Int) = 0) := by omega
      clear d2 w37 w36 hj0 a2 e3 d1 e
      have a2 := fun h => @lenA_st h (markU l)
      rw [mark_len] at a2
      generalize ((m + 1 : Nat) : Int) = jj at *
      unfold rwV st at *
      generalize (⟨(markU l).toArray⟩ : ByteArray) = s at *
      generalize rowsV (winsL l (m + 1)) = V at *
      generalize rowsV (winsL l m) = V2 at *
      simp (maxSteps := 1000000) (disch := first | omega | decide | assumption | simp [scal]) [loadA_eq ia_46, o_indexAddrS es_51, ze_51, o_buildSlice es_51 ze_51 (by decide) ba_51_1, o_convI cv_5_3, o_indexAddrS es_26, ze_26, o_buildSlice es_26 ze_26 (by decide) ba_26_3, lenA_sl lk_26, loadA_eq ia_9, want_some q8_43g3, want_some q8_55g6, want_some q8_59g2, want_some q8_59g6, want_some q8_59g12, want_some q8_59g18, want_some q8_59g21, want_some q8_59g30, siter_ptr, siter_ren, o_rangeT, c1, c2, lpa, lpb, c4, w0, tm, w1, w2, a2, z0, z1, x1, x2, x3, x4, k14, e1, e2, e5]
end Go.Proofs.Ytjimphlkhjmaiaa.sw
