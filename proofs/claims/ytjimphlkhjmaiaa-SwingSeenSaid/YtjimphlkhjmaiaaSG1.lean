/-
  Contracts of functions of the program at the limit evaluator. No condition.
-/
import Derived.Test.YtjimphlkhjmaiaaSGN
import Derived.Laws.RangeString
import Derived.Lib.Repeat
import Derived.Lib.Strings
import Derived.Test.YtjimphlkhjmaiaaE40
namespace Go.Proofs.Ytjimphlkhjmaiaa.sw
open Go.GE
set_option linter.unusedVariables false
set_option linter.unusedSimpArgs false
set_option linter.unusedSectionVars false
set_option maxRecDepth 100000
set_option maxHeartbeats 4000000
theorem k14 (h : List Blk) : callH LL 14 [] h = some ⟨.bool true, h, [], []⟩ := callH_plain (L_tab rfl) rfl rfl
abbrev uv (n : Nat) : Value := .int .u8 (n : Int)
abbrev sl (b off n c : Nat) : Value := .slice (some ⟨b, off, none⟩) n c
abbrev pp (b : Nat) : Value := .pointer (some ⟨b, 0, none⟩)
theorem wrap_nn {a : Nat} (h : a < 2 ^ 63) : IntKind.i64.wrap (a : Int) = a := wrap_i64_id (by omega) (by omega)
end Go.Proofs.Ytjimphlkhjmaiaa.sw
namespace Go.Proofs.Ytjimphlkhjmaiaa.sw
open Go.GE
set_option linter.unusedVariables false
set_option linter.unusedSimpArgs false
set_option linter.unusedSectionVars false
set_option maxRecDepth 100000
set_option maxHeartbeats 4000000
abbrev st (l : List UInt8) : Value := .string ⟨l.toArray⟩
theorem bytes_mk (l : List UInt8) : (⟨l.toArray⟩ : ByteArray).toList = l := by rw [Lib.toList_data]
theorem bin_eqls {t : TypeId} {c : Bool} {a b : List UInt8} : binA Try.prog .eql t c (st a) (st b) = some (.bool (decide (a = b))) := by
  simp only [binA, Op.stringOp, bytes_mk, pureOf, pure]
  by_cases h : a = b <;> simp [h]
theorem st_size (l : List UInt8) : (⟨l.toArray⟩ : ByteArray).size = l.length := rfl
theorem bin_adds {t : TypeId} {c : Bool} {a b : List UInt8} (h : a.length + b.length ≤ 9223372036854775807) : binA Try.prog .add t c (st a) (st b) = some (st (a ++ b)) := by
  have : ¬ (((a.length + b.length : Nat) : Int) > IntKind.i64.max) := by
    rw [show IntKind.i64.max = (2 ^ 63 : Int) - 1 from rfl]; omega
  simp only [binA, Op.stringOp, st_size, if_neg this, pureOf, pure]
  congr 2
section
open Go.ChangeShapes Go.WideShapes Go.RowKit
variable {H : Type} {enc : TypeId × Value → H} {W : World} {base b0 : Nat} {v : Value} {d : DataW H} {p : List MemPlace}
theorem open_u8 (hv : Value.okWide Try.prog W .any b0 5 v) (hd : DataW.Trod enc Try.prog W base (fun _ => true) true 5 v d p) : ∃ n : Nat, v = uv n ∧ n < 256 := by
  obtain ⟨y, rfl, _, _, h⟩ := open_int (show Try.prog.underlying 5 = some (.int .u8) from by kernel_rfl) hv hd
  obtain ⟨n, rfl, hn⟩ := nat_of (b := 255) (u8_wf h)
  exact ⟨n, rfl, hn⟩
end
end Go.Proofs.Ytjimphlkhjmaiaa.sw
namespace Go.Proofs.Ytjimphlkhjmaiaa.sw
open Go.GE
set_option linter.unusedVariables false
set_option linter.unusedSimpArgs false
set_option linter.unusedSectionVars false
set_option maxRecDepth 100000
set_option maxHeartbeats 4000000
theorem u9 : Try.prog.underlying 9 = some .string := by kernel_rfl
theorem u5 : Try.prog.underlying 5 = some (.int .u8) := by kernel_rfl
theorem u51 : Try.prog.underlying 51 = some (.slice 5) := by kernel_rfl
theorem ext_st {l : List UInt8} {a b : Nat} : (⟨l.toArray⟩ : ByteArray).extract a b = ⟨((l.drop a).take (b - a)).toArray⟩ := by rw [Lib.extract_eq]
def sliceB (h : List Blk) (s : ByteArray) (lo hi : Option Value) : Option OR :=
  match bnd hi s.size s.size with
  | some hh => match bnd lo hh 0 with
    | some ll => pureR h (.string (s.extract ll hh))
    | none => none
  | none => none
section
variable {σ : Tm} {h : List Blk} {d : Option Nat} {ty : TypeId} {pos : String} {af : Array Edge} {g : Option (Nat × Bool)} {x y z : Operand} {lo hi : Option Operand}
theorem o_sliceT : aop Try.prog LL σ h ⟨d, .slice 9 x lo hi none, ty, pos, af, g⟩ = (match opd σ x, optOpd σ lo, optOpd σ hi with
    | some (.string s), some lo, some hi => sliceB h s lo hi
    | _, _, _ => none) := by
  simp only [aop, u9, show optOpd σ none = some none from rfl]
  rcases opd σ x with _ | v
  · rfl
  cases v with
  | string s =>
    rcases optOpd σ lo with _ | lo'
    · rfl
    rcases optOpd σ hi with _ | hi'
    · rfl
    rfl
  | slice a l c =>
    rcases a with _ | ⟨b, o, _ | _⟩ <;> rcases optOpd σ lo with _ | lo' <;> rcases optOpd σ hi with _ | hi' <;> first | rfl | (cases l <;> cases c <;> rfl)
  | _ => rfl
/-- bytes turned into a string -/
def conS (h : List Blk) (b o n : Nat) : Option OR := match n with
  | 0 => pureR h (.string .empty)
  | _ => match cellsC h b with
    | some cs => match rdN cs o n with
      | some l => (bytesOf l).map fun bs => ⟨.string ⟨bs.toArray⟩, h, [b], []⟩
      | none => none
    | none => none
theorem o_conT : aop Try.prog LL σ h ⟨d, .convert 51 9 x, ty, pos, af, g⟩ = (match opd σ x with
    | some (.slice none 0 0) => pureR h (.string .empty)
    | some (.slice (some ⟨b, o, none⟩) n _) => conS h b o n
    | _ => none) := by
  simp only [aop, u9, u51, u5]
  rcases opd σ x with _ | v
  · rfl
  cases v with
  | slice a l c =>
    rcases a with _ | ⟨b, o, _ | _⟩
    · cases l <;> cases c <;> rfl
    · cases l <;> rfl
    · rfl
  | _ => rfl
theorem o_bytT : aop Try.prog LL σ h ⟨d, .convert 9 51 x, ty, pos, af, g⟩ = (match opd σ x with
    | some (.string s) => allocR h (.cells (cellsOfBytes s) 1 true true) fun b => .slice (some ⟨b, 0, none⟩) s.size s.size
    | _ => none) := by
  simp only [aop, u9, u51, u5]
  rcases opd σ x with _ | v
  · rfl
  cases v <;> rfl
theorem o_indexT : aop Try.prog LL σ h ⟨d, .index 9 x y, ty, pos, af, g⟩ = (match opd σ x, opd σ y with
    | some (.string s), some (.int _ k) => if 0 ≤ k then match s[k.toNat]? with
        | some c => pureR h (.int .u8 c.toNat)
        | none => none
      else none
    | _, _ => none) := by
  simp only [aop, u9]
  rcases opd σ x with _ | v
  · rfl
  cases v with
  | string s =>
    rcases opd σ y with _ | w
    · rfl
    cases w <;> rfl
  | _ => rfl
theorem o_rangeT : aop Try.prog LL σ h ⟨d, .range 9 x, ty, pos, af, g⟩ = (match opd σ x with
    | some (.string s) => allocR h (.siter s 0) ptrTo
    | _ => none) := by
  simp only [aop, u9]
  rcases opd σ x with _ | v
  · rfl
  cases v <;> rfl
def nextB (h : List Blk) (b : Nat) : Option OR := match h[b]? with
  | some (.siter s p) => if p < s.size then
      some ⟨.tuple #[.bool true, goInt p, .int .i32 (Utf8.decode s p).1], h.set b (.siter s (p + (Utf8.decode s p).2)), [b], [b]⟩
    else some ⟨.tuple #[.bool false], h, [b], []⟩
  | _ => none
theorem o_nextT : aop Try.prog LL σ h ⟨d, .next x true, ty, pos, af, g⟩ = (match opd σ x with
    | some (.pointer (some ⟨b, 0, none⟩)) => nextB h b
    | _ => none) := rfl
theorem lenA_st {l : List UInt8} : lenA Try.prog h 9 (st l) = some (iv l.length, []) := by
  simp only [lenA, u9]; rfl
end
end Go.Proofs.Ytjimphlkhjmaiaa.sw
namespace Go.Proofs.Ytjimphlkhjmaiaa.sw
open Go.GE
set_option linter.unusedVariables false
set_option linter.unusedSimpArgs false
set_option linter.unusedSectionVars false
set_option maxRecDepth 100000
set_option maxHeartbeats 4000000
def bitU (b : Bool) : UInt8 := cond b 49 48
def markU (l : List Bool) : List UInt8 := l.map bitU
theorem bitU_inj {a b : Bool} (h : bitU a = bitU b) : a = b := by cases a <;> cases b <;> first | rfl | (exact absurd h (by decide))
theorem markU_inj {a b : List Bool} (h : markU a = markU b) : a = b := by
  induction a generalizing b with
  | nil => cases b with
    | nil => rfl
    | cons => simp [markU] at h
  | cons x a ih => cases b with
    | nil => simp [markU] at h
    | cons y b =>
      simp only [markU, List.map_cons, List.cons.injEq] at h
      rw [bitU_inj h.1, ih h.2]
theorem mark_len {l : List Bool} : (markU l).length = l.length := by simp [markU]
theorem mark_app {a b : List Bool} : markU (a ++ b) = markU a ++ markU b := by simp [markU]
theorem mark_drop {l : List Bool} {t : Nat} : (markU l).drop t = markU (l.drop t) := by simp [markU, List.map_drop]
theorem mark_take {l : List Bool} {t : Nat} : (markU l).take t = markU (l.take t) := by simp [markU, List.map_take]
abbrev rwV (l : List Bool) : Value := st (markU l)
end Go.Proofs.Ytjimphlkhjmaiaa.sw
namespace Go.Proofs.Ytjimphlkhjmaiaa.sw
open Go.GE
set_option linter.unusedVariables false
set_option linter.unusedSimpArgs false
set_option linter.unusedSectionVars false
set_option maxRecDepth 100000
set_option maxHeartbeats 4000000
def markV (l : List Bool) : List Value := l.map fun b => uv (cond b 49 48)
/-- the first marks, and zeros behind them -/
def fillV (l : List Bool) (k : Nat) : List Value := markV l ++ List.replicate k (uv 0)
theorem markV_len {l : List Bool} : (markV l).length = l.length := by simp [markV]
theorem fillV_len {l : List Bool} {k : Nat} : (fillV l k).length = l.length + k := by simp [fillV, markV_len]
theorem fillV_set {l : List Bool} {k : Nat} {b : Bool} {v : Value} (hv : v = uv (cond b 49 48)) : (fillV l (k + 1)).set l.length v = fillV (l ++ [b]) k := by
  subst hv
  unfold fillV
  rw [List.set_append_right _ _ (by rw [markV_len]; exact Nat.le_refl _), markV_len, Nat.sub_self, List.replicate_succ, List.set_cons_zero]
  simp [markV]
theorem markV_bytes : ∀ {l : List Bool}, bytesOf (markV l) = some (markU l) := by
  intro l
  induction l with
  | nil => rfl
  | cons b l ih =>
    show (bytesOf (markV l)).map (UInt8.ofNat ((cond b 49 48 : Nat) : Int).toNat :: ·) = some (markU (b :: l))
    rw [ih]
    cases b <;> rfl
theorem conS_mark {h : List Blk} {b n e : Nat} {l : List Bool} {fl ow : Bool} (hb : h[b]? = some (.cells (markV l) e fl ow)) (hn : l.length = n) (h1 : 1 ≤ n) : conS h b 0 n = some ⟨rwV l, h, [b], []⟩ := by
  obtain ⟨m, rfl⟩ : ∃ m, n = m + 1 := ⟨n - 1, by omega⟩
  have hr := rdN_all (markV l) (m + 1) 0 (by rw [markV_len]; omega)
  rw [List.drop_zero] at hr
  simp only [conS, cellsC, hb, hr, markV_bytes, Option.map_some]
/-- the marks of a number, the lowest ones first -/
def bitL (x n : Nat) : List Bool := (List.range n).map fun k => decide (x / 2 ^ k % 2 = 1)
theorem bitL_len {x n : Nat} : (bitL x n).length = n := by simp [bitL]
theorem bitL_succ {x n : Nat} : bitL x (n + 1) = bitL x n ++ [decide (x / 2 ^ n % 2 = 1)] := by simp [bitL, List.range_succ]
theorem mk51 {σ : Tm} {h : List Blk} {d : Option Nat} {ty : TypeId} {pos : String} {af : Array Edge} {g : Option (Nat × Bool)} {x y : Operand} : aop Try.prog LL σ h ⟨d, .makeSlice 51 x y, ty, pos, af, g⟩ = (match opd σ x, opd σ y with
    | some (.int _ n), some (.int _ k) => if 0 ≤ n ∧ n ≤ k ∧ k * 1 ≤ 70368744177664 ∧ k ≤ 70368744177664 then allocR h (.cells (List.replicate k.toNat (uv 0)) 1 true true) fun b => .slice (some ⟨b, 0, none⟩) n.toNat k.toNat else none
    | _, _ => none) := by
  have e1 : Try.prog.underlying 51 = some (.slice 5) := by kernel_rfl
  have e2 : (Try.prog.info? 5).map (fun i => (i.bytes, i.size)) = some (1, 1) := by kernel_rfl
  have e3 : zeroA Try.prog 5 = some (uv 0) := by kernel_rfl
  obtain ⟨i, hi, hp⟩ := Option.map_eq_some_iff.1 e2
  obtain ⟨h8, h1⟩ := Prod.mk.inj hp
  have hfl : ∀ k : Nat, (List.replicate k [uv 0]).flatten = List.replicate k (uv 0) := fun k => List.flatten_replicate_singleton
  simp only [aop, e1, e2, e3, hi, h8, h1]
  cases opd σ x with
  | none => rfl
  | some v =>
    cases v <;> try rfl
    cases opd σ y with
    | none => rfl
    | some w =>
      cases w <;> try rfl
      rename_i k1 n k2 m
      simp only [e3, hi, h8, h1]
      by_cases hc : 0 ≤ n ∧ n ≤ m ∧ m * 1 ≤ 70368744177664 ∧ m ≤ 70368744177664
      · rw [if_pos hc, if_pos ⟨hc.1, hc.2.1, by have := hc.2.2.1; omega, by have := hc.2.2.2; omega, by decide, rfl⟩]
        show allocR h (.cells ((List.replicate m.toNat [uv 0]).flatten) 1 true true) _ = _
        rw [hfl]
      · rw [if_neg hc, if_neg (fun h => hc ⟨h.1, h.2.1, by have := h.2.2.1; omega, by have := h.2.2.2.1; omega⟩)]
def mapS (es : List (List Bool)) : List (Value × Value) := es.map fun l => (rwV l, .bool true)
abbrev mapB (es : List (List Bool)) : Blk := .map (mapS es)
def insS (es : List (List Bool)) (l : List Bool) : List (List Bool) := if l ∈ es then es else es ++ [l]
theorem same_rw {a b : List Bool} : sameK (rwV a) (rwV b) = some (decide (a = b)) := by
  show some ((⟨(markU a).toArray⟩ : ByteArray) == ⟨(markU b).toArray⟩) = _
  rw [beq_toListBytes, bytes_mk, bytes_mk]
  by_cases h : a = b
  · subst h; simp
  · have : ¬ markU a = markU b := fun e => h (markU_inj e)
    simp [h, this]
theorem find_rw {l : List Bool} : ∀ {es : List (List Bool)} {i : Nat}, (l ∈ es ∧ ∃ j, findA (rwV l) (mapS es) i = some (some (i + j, .bool true)) ∧ es[j]? = some l) ∨ (l ∉ es ∧ findA (rwV l) (mapS es) i = some none) := by
  intro es
  induction es with
  | nil => intro i; exact .inr ⟨by simp, rfl⟩
  | cons a es ih =>
    intro i
    simp only [mapS, List.map_cons, findA, same_rw]
    by_cases h : l = a
    · subst h
      left
      refine ⟨by simp, 0, by simp, rfl⟩
    · simp only [h, decide_false]
      rcases ih (i := i + 1) with ⟨h1, j, h2, h3⟩ | ⟨h1, h2⟩
      · left
        refine ⟨by simp [h1], j + 1, ?_, by simpa using h3⟩
        simp only [mapS] at h2
        rw [h2, show i + 1 + j = i + (j + 1) by omega]
      · right
        refine ⟨by simp [h, h1], ?_⟩
        simpa only [mapS] using h2
def updX (P : Program) (t : TypeId) (h : List Blk) (m k v : Option Value) : Option OR := match m, k, v with
    | some m, some k, some v => updA P h t m k v
    | _, _, _ => none
theorem o_mapU {σ : Tm} {h : List Blk} {d : Option Nat} {ty : TypeId} {pos : String} {af : Array Edge} {g : Option (Nat × Bool)} {t : TypeId} {x y z : Operand} : aop Try.prog LL σ h ⟨d, .mapUpdate t x y z, ty, pos, af, g⟩ = updX Try.prog t h (opd σ x) (opd σ y) (opd σ z) := rfl
theorem o_makeMap {σ : Tm} {h : List Blk} {d : Option Nat} {ty : TypeId} {pos : String} {af : Array Edge} {g : Option (Nat × Bool)} {t : TypeId} : aop Try.prog LL σ h ⟨d, .makeMap t none, ty, pos, af, g⟩ = allocR h (.map []) fun b => .map (some b) := rfl
theorem upd80 {h : List Blk} {b : Nat} {es : List (List Bool)} {l : List Bool} (hb : h[b]? = some (mapB es)) : updX Try.prog 80 h (some (.map (some b))) (some (rwV l)) (some (.bool true)) = some ⟨undef, h.set b (mapB (insS es l)), [b], [b]⟩ := by
  have e1 : Try.prog.underlying 80 = some (.map 9 4) := by kernel_rfl
  simp only [updX, updA, e1, u9, mapAt, hb, keyKind, cond_true]
  rcases find_rw (l := l) (es := es) (i := 0) with ⟨h1, j, h2, h3⟩ | ⟨h1, h2⟩
  · simp only [h2, insS, if_pos h1, Nat.zero_add]
    have : (mapS es).set j (rwV l, .bool true) = mapS es := by
      apply List.ext_getElem?
      intro i
      by_cases e : j = i
      · subst e
        have hlt : j < (mapS es).length := by
          have := (List.getElem?_eq_some_iff.1 h3).1
          simpa [mapS] using this
        rw [List.getElem?_set_self hlt]
        simp [mapS, h3]
      · rw [List.getElem?_set_ne e]
    rw [this]
  · simp only [h2, insS, if_neg h1]
    rw [show mapS es ++ [(rwV l, Value.bool true)] = mapS (es ++ [l]) by simp [mapS]]
end Go.Proofs.Ytjimphlkhjmaiaa.sw
namespace Go.Proofs.Ytjimphlkhjmaiaa.sw
open Go.GE
set_option linter.unusedVariables false
set_option linter.unusedSimpArgs false
set_option linter.unusedSectionVars false
set_option maxRecDepth 100000
set_option maxHeartbeats 4000000
theorem ptrV_map {d b : Nat} : ptrV (d + 1) (.map (some b)) = [b] := rfl
theorem renV_map {f : Nat → Option Nat} {d b : Nat} : renV f (d + 1) (.map (some b)) = (f b).map fun b' => .map (some b') := rfl
theorem map_ptr {es : List (List Bool)} : ptrB (.map (mapS es)) = [] := by
  simp only [ptrB, mapS]
  induction es with
  | nil => rfl
  | cons a es ih => simp only [List.map_cons, List.flatMap_cons, ih]; rfl
theorem map_ren {f : Nat → Option Nat} {es : List (List Bool)} : renB f (.map (mapS es)) = some (.map (mapS es)) := by
  have : renP f (mapS es) = some (mapS es) := by
    simp only [mapS]
    induction es with
    | nil => rfl
    | cons a es ih => simp only [List.map_cons, renP, ih]; rfl
  simp only [renB, this, Option.map_some]
end Go.Proofs.Ytjimphlkhjmaiaa.sw
namespace Go.Proofs.Ytjimphlkhjmaiaa.sw
open Go.GE
set_option linter.unusedVariables false
set_option linter.unusedSimpArgs false
set_option linter.unusedSectionVars false
set_option maxRecDepth 100000
set_option maxHeartbeats 4000000
attribute [local simp] runOps_nil runOps_cons runOpsF_nil runOpsF_cons fstS_some fstF_some opStep_eq want_none oStep_true oStep_false fin_pure fin_read fin_alloc fin_write storeB wrN cellV addWr o_move o_assign o_pick o_alloc o_box o_load o_store o_nilCheck o_bin o_un o_extract o_callV o_callB o_callI callV_f callV_y callV_fc o_makeFunc partsA Instr.fill builtin_len builtin_max2 bin_add bin_sub bin_mul bin_quo bin_rem bin_lss bin_leq bin_gtr bin_geq bin_eql bin_neq un_neg un_not bin_shr bin_shl wrap_u64_id opd opds optAll putO nbeq nblt constOk isC ops sub cl cr co bodyOf thenS_normal thenS_ret thenS_exit thenS_goto afterN_normal afterN_ret afterN_exit afterN_goto condS_true condS_false blockS_normal blockS_ret blockS_exit blockS_goto headS normS normK_eq fixS_nil fixS_cons fix1 fixV emptyB keepO_nil keepO_cons roundC_normal roundC_exit roundC_ret roundC_goto sweep_eq sweepD rnm pickR pickW rootsB ptrT renT ptrFn renFn ptrB_flat ptrB_non renB_flat renB_non plainS_some drawS_some fpsOk disj unord range' dropTo enumT undef wrap_i64_id Value.cells mkCells ptrTo scal cellsAt rdN endS_ret resultsA Option.bind_some tupV finish reachN dep ptrL_eq ptrL renL_eq renL ptrV_bool ptrV_int ptrV_string ptrV_nilFunc ptrV_nilIface ptrV_nilPtr ptrV_ptr ptrV_nilSl ptrV_sl ptrV_iface ptrV_agg ptrV_tuple ptrV_func renV_bool renV_int renV_string renV_nilFunc renV_nilIface renV_nilPtr renV_ptr renV_nilSl renV_sl renV_iface renV_agg renV_tuple renV_func gotoS_goto gotoS_normal gotoS_exit gotoS_ret skip_seq sliceE bnd bndHi intOf optOpd keepT_nil keepT_cons keepC_t keepC_f lk_nil lk_cons lkC_t lkC_f has_nil has_cons hasC_t hasC_f rep_nil rep_cons repC_t repC_f put_eq putC_t putC_f mem_nil mem_cons memC_t memC_f idx_nil idx_cons idxC_t idxC_f reach_nil reachP_cons reachQ_t reachQ_f ptrB_dead renB_dead ins_eq
attribute [local simp] n42_1s n42_4s n42_8s n42_11s n42_12s n42_10s n42_15s n42_17s n42_20s n42_21s n42_19s n42_22s n42_18s n42_16s n42_14s n42_13s n42_9s n42_7s n42_6s n42_6g n42_5s n42_3s n42_24s n42_25s n42_23s n42_2s n42_0s Try.f42 n22_1s n22_5s n22_8s n22_9s n22_7s n22_11s n22_14s n22_15s n22_13s n22_17s n22_20s n22_21s n22_19s n22_22s n22_18s n22_16s n22_12s n22_10s n22_6s n22_4s n22_3s n22_24s n22_25s n22_23s n22_2s n22_0s Try.f22
theorem dec_row {l : List Bool} {p : Nat} (hp : p < l.length) : Utf8.decode ⟨(markU l).toArray⟩ p = ((cond (l.getD p false) 49 48 : Nat), 1) := by
  have hs : p < (⟨(markU l).toArray⟩ : ByteArray).size := by rw [st_size, mark_len]; exact hp
  have hv : (⟨(markU l).toArray⟩ : ByteArray)[p]'hs = bitU (l.getD p false) := by
    show (markU l).toArray[p]'_ = _
    simp [markU, hp]
  rw [decode_ascii _ _ hs (by rw [hv]; cases l.getD p false <;> decide), hv]
  cases l.getD p false <;> rfl
theorem next_row {h : List Blk} {b p : Nat} {l : List Bool} (hb : h[b]? = some (.siter ⟨(markU l).toArray⟩ p)) (hp : p < l.length) :
    nextB h b = some ⟨.tuple #[.bool true, iv p, .int .i32 ((cond (l.getD p false) 49 48 : Nat) : Int)], h.set b (.siter ⟨(markU l).toArray⟩ (p + 1)), [b], [b]⟩ := by
  have hs : p < (⟨(markU l).toArray⟩ : ByteArray).size := by rw [st_size, mark_len]; exact hp
  simp only [nextB, hb, if_pos hs, dec_row hp]
  rfl
theorem next_end {h : List Blk} {b p : Nat} {l : List Bool} (hb : h[b]? = some (.siter ⟨(markU l).toArray⟩ p)) (hp : l.length ≤ p) : nextB h b = some ⟨.tuple #[.bool false], h, [b], []⟩ := by
  have hs : ¬ p < (⟨(markU l).toArray⟩ : ByteArray).size := by rw [st_size, mark_len]; omega
  simp only [nextB, hb, if_neg hs]
theorem siter_ptr {s : ByteArray} {p : Nat} : ptrB (.siter s p) = [] := rfl
theorem siter_ren {f : Nat → Option Nat} {s : ByteArray} {p : Nat} : renB f (.siter s p) = some (.siter s p) := rfl
theorem k57 (x : Bool) (h : List Blk) : callH LL 57 [st [48, 49], .int .i32 ((cond x 49 48 : Nat) : Int)] h = some ⟨.bool true, h, [], []⟩ := by
  cases x
  · exact callH_none rfl (fun _ => rfl) (L_tab (by kernel_rfl)) fun _ => rfl
  · exact callH_none rfl (fun _ => rfl) (L_tab (by kernel_rfl)) fun _ => rfl
theorem l42 (l : List Bool) : ∀ (q p : Nat), p + q = l.length →
    lpB Try.prog LL ⟨42, 16, 0, none⟩ n42_6 n42_7 ⟨[(1, st [48, 49]), (8, pp 0)], [.siter ⟨(markU l).toArray⟩ p], []⟩ = some (.exit 0, ⟨[], [], []⟩) := by
  intro q
  induction q with
  | zero =>
    intro p hp
    have n1 := @next_end [.siter ⟨(markU l).toArray⟩ p] 0 p l rfl (by omega)
    generalize (⟨(markU l).toArray⟩ : ByteArray) = s at *
    rw [lpB_eq]
    simp (maxSteps := 1000000) (disch := first | omega | decide | assumption | simp [scal]) [siter_ptr, siter_ren, o_nextT, n1]
  | succ q ih =>
    intro p hp
    have n1 := @next_row [.siter ⟨(markU l).toArray⟩ p] 0 p l rfl (by omega)
    have n2 := fun h => k57 (l.getD p false) h
    have this := ih (p + 1) (by omega)
    simp only [List.set_cons_zero] at n1
    generalize (⟨(markU l).toArray⟩ : ByteArray) = s at *
    generalize ((cond (l.getD p false) 49 48 : Nat) : Int) = r at *
    clear ih
    rw [lpB_eq]
    simp (maxSteps := 1000000) (disch := first | omega | decide | assumption | simp [scal]) [siter_ptr, siter_ren, o_nextT, n1, n2, this]
theorem k42 (l : List Bool) (h : List Blk) : callH LL 42 [rwV l, st [48, 49]] h = some ⟨.bool true, h, [], []⟩ := by
  refine callH_none rfl (fun _ => rfl) (L_run rfl ?_) fun _ => rfl
  have lp := l42 l l.length 0 (by omega)
  rw [run42 _ _ _ (by simp)]
  unfold rwV st
  generalize (⟨(markU l).toArray⟩ : ByteArray) = s at *
  simp (maxSteps := 1000000) (disch := first | omega | decide | assumption | simp [scal]) [siter_ptr, siter_ren, o_rangeT, lp]
theorem k22 (l : List Bool) (h1 : 1 ≤ l.length) (h64 : l.length ≤ 64) (h : List Blk) : callH LL 22 [rwV l] h = some ⟨iv 0, h, [], []⟩ := by
  refine callH_none rfl (fun _ => rfl) (L_run rfl ?_) fun _ => rfl
  have e1 : ¬ markU l = [] := fun e => by have := @mark_len l; rw [e] at this; simp at this; omega
  have e2 : ¬ ((64 : Int) < (l.length : Int)) := by omega
  have e3 : ¬ (64 < l.length) := by omega
  have c1 := fun h => k42 l h
  have c2 := fun h => @lenA_st h (markU l)
  rw [mark_len] at c2
  have c3 := fun c => @bin_eqls 9 c (markU l) []
  rw [run22 _ _ _ (by simp)]
  simp (maxSteps := 1000000) (disch := first | omega | decide | assumption | simp [scal]) [c1, c2, c3, e1, e2, e3]
end Go.Proofs.Ytjimphlkhjmaiaa.sw
namespace Go.Proofs.Ytjimphlkhjmaiaa.sw
open Go.GE
set_option linter.unusedVariables false
set_option linter.unusedSimpArgs false
set_option linter.unusedSectionVars false
set_option maxRecDepth 100000
set_option maxHeartbeats 4000000
attribute [local simp] runOps_nil runOps_cons runOpsF_nil runOpsF_cons fstS_some fstF_some opStep_eq want_none oStep_true oStep_false fin_pure fin_read fin_alloc fin_write storeB wrN cellV addWr o_move o_assign o_pick o_alloc o_box o_load o_store o_nilCheck o_bin o_un o_extract o_callV o_callB o_callI callV_f callV_y callV_fc o_makeFunc partsA Instr.fill builtin_len builtin_max2 bin_add bin_sub bin_mul bin_quo bin_rem bin_lss bin_leq bin_gtr bin_geq bin_eql bin_neq un_neg un_not bin_shr bin_shl wrap_u64_id opd opds optAll putO nbeq nblt constOk isC ops sub cl cr co bodyOf thenS_normal thenS_ret thenS_exit thenS_goto afterN_normal afterN_ret afterN_exit afterN_goto condS_true condS_false blockS_normal blockS_ret blockS_exit blockS_goto headS normS normK_eq fixS_nil fixS_cons fix1 fixV emptyB keepO_nil keepO_cons roundC_normal roundC_exit roundC_ret roundC_goto sweep_eq sweepD rnm pickR pickW rootsB ptrT renT ptrFn renFn ptrB_flat ptrB_non renB_flat renB_non plainS_some drawS_some fpsOk disj unord range' dropTo enumT undef wrap_i64_id Value.cells mkCells ptrTo scal cellsAt rdN endS_ret resultsA Option.bind_some tupV finish reachN dep ptrL_eq ptrL renL_eq renL ptrV_bool ptrV_int ptrV_string ptrV_nilFunc ptrV_nilIface ptrV_nilPtr ptrV_ptr ptrV_nilSl ptrV_sl ptrV_iface ptrV_agg ptrV_tuple ptrV_func renV_bool renV_int renV_string renV_nilFunc renV_nilIface renV_nilPtr renV_ptr renV_nilSl renV_sl renV_iface renV_agg renV_tuple renV_func gotoS_goto gotoS_normal gotoS_exit gotoS_ret skip_seq sliceE bnd bndHi intOf optOpd keepT_nil keepT_cons keepC_t keepC_f lk_nil lk_cons lkC_t lkC_f has_nil has_cons hasC_t hasC_f rep_nil rep_cons repC_t repC_f put_eq putC_t putC_f mem_nil mem_cons memC_t memC_f idx_nil idx_cons idxC_t idxC_f reach_nil reachP_cons reachQ_t reachQ_f ptrB_dead renB_dead ins_eq
attribute [local simp] n40_1s n40_3s n40_4s n40_2s n40_0s Try.f40
def repB (l : List Bool) : Nat → List Bool
  | 0 => []
  | c + 1 => l ++ repB l c
theorem repB_len {l : List Bool} : ∀ c, (repB l c).length = c * l.length := by
  intro c
  induction c with
  | zero => simp [repB]
  | succ c ih => simp [repB, ih, Nat.succ_mul, Nat.add_comm]
theorem repB_mark {l : List Bool} : ∀ c, Lib.repeatL (markU l) c = markU (repB l c) := by
  intro c
  induction c with
  | zero => rfl
  | succ c ih => rw [Lib.repeatL, ih, repB, mark_app]
theorem k56 (l : List Bool) (c : Nat) (hc : c ≤ 2 ^ 20) (hl : l.length ≤ 2 ^ 10) (h : List Blk) : callH LL 56 [rwV l, iv c] h = some ⟨rwV (repB l c), h, [], []⟩ := by
  refine callH_none rfl (fun _ => rfl) (L_tab ?_) fun _ => rfl
  show (if 0 ≤ (c : Int) ∧ (⟨(markU l).toArray⟩ : ByteArray).size * (c : Int).toNat ≤ 2 ^ 40 ∧ (c : Int) ≤ 2 ^ 40 then some (⟨.string ⟨(Lib.repeatL (⟨(markU l).toArray⟩ : ByteArray).data.toList (c : Int).toNat).toArray⟩, [], []⟩ : RR) else none) = _
  have h1 : l.length * c ≤ 2 ^ 10 * 2 ^ 20 := Nat.mul_le_mul hl hc
  rw [if_pos ⟨by omega, by rw [st_size, mark_len]; simp only [Int.toNat_natCast]; omega, by omega⟩]
  simp only [Int.toNat_natCast, repB_mark]
abbrev strB (l : List Bool) : Blk := .cells [rwV l] 1 true true
abbrev intB (n : Nat) : Blk := .cells [iv n] 1 true true
/-- what is seen of some marks from an index on -/
def winB (l : List Bool) (k i : Nat) : List Bool := ((repB l (2 + k / l.length)).drop i).take k
theorem k40 (l : List Bool) (k : Nat) (h : List Blk) : callH LL 40 [rwV l, iv k] h = some ⟨.func (.func 55) #[] #[pp h.length, pp (h.length + 1)], h ++ [strB l, intB k], [], []⟩ := by
  refine callN_none (v := .func (.func 55) #[] #[pp 0, pp 1]) (news := [strB l, intB k]) rfl (fun _ => rfl) (L_run rfl ?_) (fun blk hb => by
    simp only [List.mem_cons, List.not_mem_nil, or_false] at hb
    rcases hb with rfl | rfl <;> exact noIdB_flat) (by simp [renV_func, renFn, renL, renV_ptr, dep, nblt])
  rw [run40 _ _ _ (by simp)]
  simp (maxSteps := 1000000) (disch := first | omega | decide | assumption | simp [scal])
end Go.Proofs.Ytjimphlkhjmaiaa.sw
namespace Go.Proofs.Ytjimphlkhjmaiaa.sw
open Go.GE
set_option linter.unusedVariables false
set_option linter.unusedSimpArgs false
set_option linter.unusedSectionVars false
set_option maxRecDepth 100000
set_option maxHeartbeats 4000000
/-- the row that the windows are cut out of -/
abbrev longB (l : List Bool) (k : Nat) : List Bool := repB l (2 + k / l.length)
theorem long_len {l : List Bool} {k i : Nat} (hi : i < l.length) : i + k ≤ (longB l k).length := by
  rw [repB_len]
  have h1 := Nat.div_add_mod k l.length
  have h2 := Nat.mod_lt k (show 0 < l.length by omega)
  rw [Nat.add_mul, Nat.mul_comm (k / l.length)]
  omega
theorem slice_win {l : List Bool} {k i : Nat} (hi : i < l.length) (h : List Blk) : sliceB h ⟨(markU (longB l k)).toArray⟩ (some (iv i)) (some (iv ((i : Int) + k))) = pureR h (rwV (winB l k i)) := by
  have h1 := @long_len l k i hi
  have e1 : bnd (some (iv ((i : Int) + k))) (⟨(markU (longB l k)).toArray⟩ : ByteArray).size (⟨(markU (longB l k)).toArray⟩ : ByteArray).size = some (i + k) := by
    simp only [bnd, intOf, st_size, mark_len]
    rw [if_pos (by omega)]
    congr 1
  have e2 : bnd (some (iv i)) (i + k) 0 = some i := by
    simp only [bnd, intOf]
    rw [if_pos (by omega)]
    congr 1
  simp only [sliceB, e1, e2, ext_st, mark_drop, mark_take, Nat.add_sub_cancel_left]
  rfl
end Go.Proofs.Ytjimphlkhjmaiaa.sw
namespace Go.Proofs.Ytjimphlkhjmaiaa.sw
open Go.GE
set_option linter.unusedVariables false
set_option linter.unusedSimpArgs false
set_option linter.unusedSectionVars false
set_option maxRecDepth 100000
set_option maxHeartbeats 4000000
attribute [local simp] runOps_nil runOps_cons runOpsF_nil runOpsF_cons fstS_some fstF_some opStep_eq want_none oStep_true oStep_false fin_pure fin_read fin_alloc fin_write storeB wrN cellV addWr o_move o_assign o_pick o_alloc o_box o_load o_store o_nilCheck o_bin o_un o_extract o_callV o_callB o_callI callV_f callV_y callV_fc o_makeFunc partsA Instr.fill builtin_len builtin_max2 bin_add bin_sub bin_mul bin_quo bin_rem bin_lss bin_leq bin_gtr bin_geq bin_eql bin_neq un_neg un_not bin_shr bin_shl wrap_u64_id opd opds optAll putO nbeq nblt constOk isC ops sub cl cr co bodyOf thenS_normal thenS_ret thenS_exit thenS_goto afterN_normal afterN_ret afterN_exit afterN_goto condS_true condS_false blockS_normal blockS_ret blockS_exit blockS_goto headS normS normK_eq fixS_nil fixS_cons fix1 fixV emptyB keepO_nil keepO_cons roundC_normal roundC_exit roundC_ret roundC_goto sweep_eq sweepD rnm pickR pickW rootsB ptrT renT ptrFn renFn ptrB_flat ptrB_non renB_flat renB_non plainS_some drawS_some fpsOk disj unord range' dropTo enumT undef wrap_i64_id Value.cells mkCells ptrTo scal cellsAt rdN endS_ret resultsA Option.bind_some tupV finish reachN dep ptrL_eq ptrL renL_eq renL ptrV_bool ptrV_int ptrV_string ptrV_nilFunc ptrV_nilIface ptrV_nilPtr ptrV_ptr ptrV_nilSl ptrV_sl ptrV_iface ptrV_agg ptrV_tuple ptrV_func renV_bool renV_int renV_string renV_nilFunc renV_nilIface renV_nilPtr renV_ptr renV_nilSl renV_sl renV_iface renV_agg renV_tuple renV_func gotoS_goto gotoS_normal gotoS_exit gotoS_ret skip_seq sliceE bnd bndHi intOf optOpd keepT_nil keepT_cons keepC_t keepC_f lk_nil lk_cons lkC_t lkC_f has_nil has_cons hasC_t hasC_f rep_nil rep_cons repC_t repC_f put_eq putC_t putC_f mem_nil mem_cons memC_t memC_f idx_nil idx_cons idxC_t idxC_f reach_nil reachP_cons reachQ_t reachQ_f ptrB_dead renB_dead ins_eq
attribute [local simp] n33_1s n33_3s n33_5s n33_8s n33_12s n33_15s n33_16s n33_14s n33_20s n33_21s n33_19s n33_18s n33_22s n33_17s n33_13s n33_11s n33_10s n33_10g n33_9s n33_7s n33_24s n33_25s n33_23s n33_6s n33_4s n33_2s n33_0s Try.f33
abbrev lpV (B C : Nat) : Value := .agg #[.int .u64 (B : Int), uv C]
theorem wrap_u64 {a : Nat} (h : a < 2 ^ 64) : IntKind.u64.wrap (a : Int) = a := by
  simp [IntKind.wrap, IntKind.bits, IntKind.signed]; omega
theorem bin_and1u {P : Program} {t : TypeId} {c : Bool} {w : Nat} (h : w < 2 ^ 64) : binA P .and t c (.int .u64 (w : Int)) (.int .u64 1) = some (.int .u64 ((w % 2 : Nat) : Int)) := by
  have e : (BitVec.ofInt 64 (w : Int) &&& BitVec.ofInt 64 1).toNat = w % 2 := by
    rw [BitVec.ofInt_natCast]
    rw [show BitVec.ofInt 64 1 = BitVec.ofNat 64 1 from rfl, BitVec.toNat_and, BitVec.toNat_ofNat, BitVec.toNat_ofNat, Nat.mod_eq_of_lt (by omega), Nat.mod_eq_of_lt (by decide : 1 < 2 ^ 64), Nat.and_one_is_mod]
  have e' : IntKind.u64.wrap ((BitVec.ofInt 64 (w : Int) &&& BitVec.ofInt 64 1).toNat : Int) = ((w % 2 : Nat) : Int) := by rw [e]; exact wrap_u64 (by omega)
  show some (Value.int .u64 (IntKind.u64.wrap ((BitVec.ofInt 64 (w : Int) &&& BitVec.ofInt 64 1).toNat : Int))) = _
  rw [e']
theorem fdiv_powu {w i : Nat} (hi : i < 64) : ((w : Int).fdiv (2 ^ min i IntKind.u64.bits)) = ((w / 2 ^ i : Nat) : Int) := by
  rw [show min i IntKind.u64.bits = i from Nat.min_eq_left (Nat.le_of_lt hi), Int.fdiv_eq_ediv_of_nonneg _ (by exact_mod_cast Nat.zero_le _)]
  simp
theorem l33 (B C n : Nat) (hB : B < 2 ^ 64) (n64 : n ≤ 64) : ∀ (q i : Nat), i + q = n →
    lpB Try.prog LL ⟨33, 41, 0, none⟩ n33_10 n33_11 ⟨[(3, pp 0), (8, sl 1 0 n n), (23, iv n), (24, iv i)], [.cells [.int .u64 (B : Int), uv C] 1 true true, .cells (fillV (bitL B i) q) 1 true true], []⟩ =
      some (.exit 0, ⟨[(8, sl 0 0 n n)], [.cells (markV (bitL B n)) 1 true true], []⟩) := by
  intro q
  induction q with
  | zero =>
    intro i hi
    obtain rfl : i = n := by omega
    have : fillV (bitL B i) 0 = markV (bitL B i) := by simp [fillV]
    rw [this]
    generalize markV (bitL B i) = F
    rw [lpB_eq]
    simp (maxSteps := 1000000) (disch := first | omega | decide | assumption | simp [scal]) [o_fieldAddr fa_46_1 (by decide), loadA_eq ia_5, o_convI cv_5_3, lenA_sl lk_51, o_fieldAddr fa_46_0 (by decide), loadA_eq ia_44, o_convI cv_44_5, o_indexAddrS es_51, sz_5]
  | succ q ih =>
    intro i hi
    have e1 : i < n := by omega
    have e2 : (i : Int) < n := by omega
    have this := ih (i + 1) (by omega)
    simp only [cast1] at this
    have t1 : Int.tmod (i : Int) 64 = (i : Int) := by
      show ((i % 64 : Nat) : Int) = i
      rw [Nat.mod_eq_of_lt (by omega)]
    have f1 := @fdiv_powu B i (by omega)
    have hy : B / 2 ^ i < 2 ^ 64 := Nat.lt_of_le_of_lt (Nat.div_le_self _ _) (by omega)
    have hset : ∀ v, v = uv (cond (decide (B / 2 ^ i % 2 = 1)) 49 48) → (fillV (bitL B i) (q + 1)).set i v = fillV (bitL B (i + 1)) q := fun v hv => by
      have := @fillV_set (bitL B i) q _ v hv
      rw [bitL_len, ← bitL_succ] at this
      exact this
    have hlen : (fillV (bitL B i) (q + 1)).length = n := by rw [fillV_len, bitL_len]; omega
    generalize B / 2 ^ i = y at *
    have f2 := fun c => @bin_and1u Try.prog 44 c y hy
    obtain ⟨r, hr⟩ : ∃ r, y % 2 = r := ⟨_, rfl⟩
    have r2 : r ≤ 1 := by omega
    rw [hr] at hset f2
    have w0 : IntKind.i64.wrap (i : Int) = i := wrap_nn (by omega)
    have w1 : IntKind.u64.wrap (48 + (r : Int)) = 48 + (r : Int) := by simp [IntKind.wrap, IntKind.bits, IntKind.signed]; omega
    have w2 : IntKind.u8.wrap (48 + (r : Int)) = 48 + (r : Int) := by simp [IntKind.wrap, IntKind.bits, IntKind.signed]; omega
    have hset := hset (.int .u8 (48 + (r : Int))) (by
      have : r = 0 ∨ r = 1 := by omega
      rcases this with rfl | rfl <;> rfl)
    generalize fillV (bitL B i) (q + 1) = F at *
    generalize fillV (bitL B (i + 1)) q = F' at *
    have e3 : i < F.length := by omega
    clear ih
    rw [lpB_eq]
    simp (maxSteps := 1000000) (disch := first | omega | decide | assumption | simp [scal]) [o_fieldAddr fa_46_1 (by decide), loadA_eq ia_5, o_convI cv_5_3, lenA_sl lk_51, o_fieldAddr fa_46_0 (by decide), loadA_eq ia_44, o_convI cv_44_5, o_indexAddrS es_51, sz_5, e1, e2, e3, t1, f1, f2, w0, w1, w2, hset, this]
theorem k33 (B C : Nat) (hB : B < 2 ^ 64) (hC : C < 256) (h : List Blk) : callH LL 33 [lpV B C, iv 1, iv 64] h = some ⟨rwV (bitL B (1 + C % 64)), h, [], []⟩ := by
  refine callH_none rfl (fun _ => rfl) (L_run rfl ?_) fun _ => rfl
  have ht : Int.tmod (C : Int) 64 = ((C % 64 : Nat) : Int) := rfl
  have w0 : IntKind.i64.wrap (C : Int) = C := wrap_nn (by omega)
  obtain ⟨n, hn⟩ : ∃ n, 1 + C % 64 = n := ⟨_, rfl⟩
  have w2 : IntKind.i64.wrap (1 + ((C % 64 : Nat) : Int)) = (n : Int) := by rw [wrap_i64_id (by omega) (by omega)]; omega
  have hn1 : 1 ≤ n ∧ n ≤ 64 := by omega
  rw [hn]
  have lp := l33 B C n hB hn1.2 n 0 (by omega)
  have hf : fillV (bitL B 0) n = List.replicate n (uv 0) := by simp [fillV, bitL, markV]
  rw [hf] at lp
  simp only [Int.natCast_zero] at lp
  have c1 := @conS_mark [.cells (markV (bitL B n)) 1 true true] 0 n 1 (bitL B n) true true rfl bitL_len hn1.1
  generalize C % 64 = r at *
  generalize markV (bitL B n) = F at *
  have m1 : (n : Int) ≤ 70368744177664 := by omega
  rw [run33 _ _ _ (by simp)]
  simp (maxSteps := 1000000) (disch := first | omega | decide | assumption | simp [scal]) [o_fieldAddr fa_46_1 (by decide), loadA_eq ia_5, o_convI cv_5_3, lenA_sl lk_51, o_fieldAddr fa_46_0 (by decide), loadA_eq ia_44, o_convI cv_44_5, o_indexAddrS es_51, sz_5, ht, w0, w2, mk51, allocR, m1, lp, o_conT, c1]
end Go.Proofs.Ytjimphlkhjmaiaa.sw
namespace Go.Proofs.Ytjimphlkhjmaiaa.sw
open Go.GE
set_option linter.unusedVariables false
set_option linter.unusedSimpArgs false
set_option linter.unusedSectionVars false
theorem rep_get {l : List Bool} (h1 : 1 ≤ l.length) : ∀ (c k : Nat), k < c * l.length → (repB l c)[k]? = l[k % l.length]? := by
  intro c
  induction c with
  | zero => intro k hk; omega
  | succ c ih =>
    intro k hk
    rw [repB]
    by_cases h : k < l.length
    · rw [List.getElem?_append_left h, Nat.mod_eq_of_lt h]
    · rw [Nat.succ_mul] at hk
      rw [List.getElem?_append_right (by omega), ih _ (by omega)]
      congr 1
      rw [Nat.mod_eq_sub_mod (by omega : k ≥ l.length)]
theorem win_get {l : List Bool} {k i x : Nat} (h1 : 1 ≤ l.length) (hi : i < l.length) (hx : x < k) : (winB l k i)[x]? = l[(i + x) % l.length]? := by
  have h2 := @long_len l k i hi
  rw [repB_len] at h2
  unfold winB
  rw [List.getElem?_take, if_pos hx, List.getElem?_drop, rep_get h1 _ _ (by omega)]
theorem win_len {l : List Bool} {k i : Nat} (hi : i < l.length) : (winB l k i).length = k := by
  have h2 := @long_len l k i hi
  unfold winB
  unfold longB at h2
  rw [List.length_take, List.length_drop]
  omega
end Go.Proofs.Ytjimphlkhjmaiaa.sw
namespace Go.Proofs.Ytjimphlkhjmaiaa.sw
open Go.GE
set_option linter.unusedVariables false
set_option linter.unusedSimpArgs false
set_option linter.unusedSectionVars false
set_option maxRecDepth 100000
set_option maxHeartbeats 4000000
theorem mark_eqP {a b : List Bool} : (markU a = markU b) = (a = b) := propext ⟨markU_inj, fun h => by rw [h]⟩
end Go.Proofs.Ytjimphlkhjmaiaa.sw
namespace Go.Proofs.Ytjimphlkhjmaiaa.sw
open Go.GE
set_option linter.unusedVariables false
set_option linter.unusedSimpArgs false
set_option linter.unusedSectionVars false
set_option maxRecDepth 100000
set_option maxHeartbeats 4000000
section
open Go.ChangeShapes Go.WideShapes Go.RowKit
variable {H : Type} {enc : TypeId × Value → H} {W : World} {base b0 : Nat} {v : Value} {d : DataW H} {p : List MemPlace}
theorem u64_wf {z : Int} (h : (Lit.int .u64 z).wf = true) : 0 ≤ z ∧ z ≤ 18446744073709551615 := by simpa [Lit.wf, IntKind.min, IntKind.max, IntKind.signed, IntKind.bits] using h
theorem open_lamp (hv : Value.okWide Try.prog W .any b0 46 v) (hd : DataW.Trod enc Try.prog W base (fun _ => true) true 46 v d p) : ∃ B C : Nat, v = lpV B C ∧ B < 2 ^ 64 ∧ C < 256 := by
  simp only [Value.okWide, Try.underlying46] at hv
  obtain ⟨cs, rfl, _, _⟩ := hv
  obtain ⟨fuel, hf⟩ := hd
  obtain ⟨zs, e, hw⟩ := open_flat 5 46 [.u64, .u8] fuel _ _ (by kernel_rfl) hf
  match zs, hw.1, hw, e with
  | [x, y], _, hw, e =>
    obtain ⟨B, rfl, hB⟩ := nat_of (b := 18446744073709551615) (u64_wf (hw.2 0 .u64 x rfl rfl))
    obtain ⟨C, rfl, hC⟩ := nat_of (b := 255) (u8_wf (hw.2 1 .u8 y rfl rfl))
    have : cs = #[.int .u64 (B : Int), uv C] := by
      cases cs
      exact congrArg Array.mk e
    subst this
    exact ⟨B, C, rfl, by omega, by omega⟩
theorem VR_lamp {m : Mp} {B C : Nat} : VR m (lpV B C) (lpV B C) := .agg (.cons (.int _ _) (.cons (.int _ _) .nil))
end
end Go.Proofs.Ytjimphlkhjmaiaa.sw
namespace Go.Proofs.Ytjimphlkhjmaiaa.sw
open Go.GE
set_option linter.unusedVariables false
set_option linter.unusedSimpArgs false
set_option linter.unusedSectionVars false
set_option maxRecDepth 100000
set_option maxHeartbeats 4000000
attribute [local simp] runOps_nil runOps_cons runOpsF_nil runOpsF_cons fstS_some fstF_some opStep_eq want_none oStep_true oStep_false fin_pure fin_read fin_alloc fin_write storeB wrN cellV addWr o_move o_assign o_pick o_alloc o_box o_load o_store o_nilCheck o_bin o_un o_extract o_callV o_callB o_callI callV_f callV_y callV_fc o_makeFunc partsA Instr.fill builtin_len builtin_max2 bin_add bin_sub bin_mul bin_quo bin_rem bin_lss bin_leq bin_gtr bin_geq bin_eql bin_neq un_neg un_not bin_shr bin_shl wrap_u64_id opd opds optAll putO nbeq nblt constOk isC ops sub cl cr co bodyOf thenS_normal thenS_ret thenS_exit thenS_goto afterN_normal afterN_ret afterN_exit afterN_goto condS_true condS_false blockS_normal blockS_ret blockS_exit blockS_goto headS normS normK_eq fixS_nil fixS_cons fix1 fixV emptyB keepO_nil keepO_cons roundC_normal roundC_exit roundC_ret roundC_goto sweep_eq sweepD rnm pickR pickW rootsB ptrT renT ptrFn renFn ptrB_flat ptrB_non renB_flat renB_non plainS_some drawS_some fpsOk disj unord range' dropTo enumT undef wrap_i64_id Value.cells mkCells ptrTo scal cellsAt rdN endS_ret resultsA Option.bind_some tupV finish reachN dep ptrL_eq ptrL renL_eq renL ptrV_bool ptrV_int ptrV_string ptrV_nilFunc ptrV_nilIface ptrV_nilPtr ptrV_ptr ptrV_nilSl ptrV_sl ptrV_iface ptrV_agg ptrV_tuple ptrV_func renV_bool renV_int renV_string renV_nilFunc renV_nilIface renV_nilPtr renV_ptr renV_nilSl renV_sl renV_iface renV_agg renV_tuple renV_func gotoS_goto gotoS_normal gotoS_exit gotoS_ret skip_seq sliceE bnd bndHi intOf optOpd keepT_nil keepT_cons keepC_t keepC_f lk_nil lk_cons lkC_t lkC_f has_nil has_cons hasC_t hasC_f rep_nil rep_cons repC_t repC_f put_eq putC_t putC_f mem_nil mem_cons memC_t memC_f idx_nil idx_cons idxC_t idxC_f reach_nil reachP_cons reachQ_t reachQ_f ptrB_dead renB_dead ins_eq
attribute [local simp] n45_1s n45_3s n45_6s n45_9s n45_13s n45_16s n45_17s n45_15s n45_18s n45_14s n45_12s n45_19s n45_11s n45_10s n45_7s n45_5s n45_21s n45_22s n45_20s n45_4s n45_2s n45_0s Try.f45
def lookX (P : Program) (t : TypeId) (h : List Blk) (x k : Option Value) (ok : Bool) : Option OR := match P.underlying t, x, k with
    | some (.map kt et), some (.map m), some kv => match P.underlying kt, zeroA P et, (match m with | none => some ([], []) | some b => (mapAt h b).map fun es => (es, [b])) with
      | some kd, some z, some (es, rd) => cond (keyKind kd kv) (match findA kv es 0 with
        | some r => some ⟨if ok then .tuple #[(r.map (·.2)).getD z, .bool r.isSome] else (r.map (·.2)).getD z, h, rd, []⟩
        | none => none) none
      | _, _, _ => none
    | _, _, _ => none
theorem o_look {σ : Tm} {h : List Blk} {d : Option Nat} {ty : TypeId} {pos : String} {af : Array Edge} {g : Option (Nat × Bool)} {t : TypeId} {x y : Operand} {ok : Bool} : aop Try.prog LL σ h ⟨d, .lookup t x y ok, ty, pos, af, g⟩ = lookX Try.prog t h (opd σ x) (opd σ y) ok := rfl
theorem look80 {h : List Blk} {b : Nat} {es : List (List Bool)} {l : List Bool} (hb : h[b]? = some (mapB es)) : lookX Try.prog 80 h (some (.map (some b))) (some (rwV l)) false = some ⟨.bool (decide (l ∈ es)), h, [b], []⟩ := by
  have e1 : Try.prog.underlying 80 = some (.map 9 4) := by kernel_rfl
  have e3 : zeroA Try.prog 4 = some (.bool false) := by kernel_rfl
  simp only [lookX, e1, u9, e3, mapAt, hb, keyKind, cond_true, Option.map_some]
  rcases find_rw (l := l) (es := es) (i := 0) with ⟨h1, j, h2, h3⟩ | ⟨h1, h2⟩
  · simp only [h2, h1, decide_true]; rfl
  · simp only [h2, h1, decide_false]; rfl
noncomputable def lp45 (m b : Nat) : ALoop := ⟨.ready, none, 45, [(5, pp m), (4, pp b)], 19, #[12, 13], n45_9, n45_10⟩
noncomputable def lpD45 (m b : Nat) : ALoop := { lp45 m b with state := .done, pending := some .ret }
abbrev bB (b : Bool) : Blk := .cells [.bool b] 1 true true
abbrev mpB (b : Nat) : Blk := .cells [.map (some b)] 1 false true
theorem loop_ptr {s : LoopState} {p : Option Code} {f : FuncId} {σ : Tm} {n : Nat} {ps : Array Tmp} {a c : Code} : ptrB (.loop ⟨s, p, f, σ, n, ps, a, c⟩) = ptrT σ := rfl
theorem loop_ren {g : Nat → Option Nat} {s : LoopState} {p : Option Code} {f : FuncId} {σ : Tm} {n : Nat} {ps : Array Tmp} {a c : Code} : renB g (.loop ⟨s, p, f, σ, n, ps, a, c⟩) = (renT g σ).map fun z => .loop ⟨s, p, f, z, n, ps, a, c⟩ := rfl
theorem mp_ptr {b : Nat} : ptrB (mpB b) = [b] := rfl
theorem mp_ren {g : Nat → Option Nat} {b : Nat} : renB g (mpB b) = (g b).map fun b' => mpB b' := by
  show (optAll (renV g dep) [.map (some b)]).map _ = _
  simp only [optAll, dep, renV_map]
  cases g b <;> rfl
theorem r45 (i : Nat) (w : List Bool) (es : List (List Bool)) : LL.rnd 0 [iv i, rwV w] [.loop (lp45 1 3), mpB 2, mapB es, bB false] =
    if w ∈ es then some ⟨.bool false, [], [(0, .loop (lpD45 1 3)), (3, bB false)]⟩ else some ⟨.bool true, [], [(0, .loop (lp45 1 3)), (2, mapB (es ++ [w]))]⟩ := by
  rw [show LL = L Try.prog (wk.wtab.keep kpT) from rfl, L_rnd_eq]
  have p1 := @map_ptr es
  have p2 := fun f => @map_ren f es
  have p3 := @map_ptr (es ++ [w])
  have p4 := fun f => @map_ren f (es ++ [w])
  have e1 : codeB Try.prog LL ⟨45, 19, 4, some 0⟩ n45_9 ⟨[(13, rwV w), (12, iv i), (5, pp 1), (4, pp 3)], [.loop (lp45 1 3), mpB 2, mapB es, bB false], []⟩ =
      some (.normal, ⟨[(7, rwV w), (13, rwV w), (12, iv i), (5, pp 1), (4, pp 3)], [.loop (lp45 1 3), mpB 2, mapB es, bB false], []⟩) := by
    simp (maxSteps := 1000000) (disch := first | omega | decide | assumption | simp [scal]) [za_4, za_80, sz_80, loadA_eq ia_80, sz_4, loadA_eq ia_4]
  have k1 := @look80 [.loop { lp45 1 3 with state := .busy }, mpB 2, mapB es, bB false] 2 es w rfl
  have k2 := @upd80 [.loop { lp45 1 3 with state := .busy }, mpB 2, mapB es, bB false] 2 es w rfl
  simp only [lp45, List.set_cons_succ, List.set_cons_zero] at k1 k2
  by_cases hw : w ∈ es
  · have e2 : codeB Try.prog LL ⟨45, 19, 4, some 0⟩ n45_10 ⟨[(7, rwV w), (13, rwV w), (12, iv i), (5, pp 1), (4, pp 3)], [.loop { lp45 1 3 with state := .busy }, mpB 2, mapB es, bB false], [0]⟩ =
        some (.ret, ⟨[(4, pp 3)], [.loop { lp45 1 3 with state := .busy }, mpB 2, mapB es, bB false], [0, 3]⟩) := by
      rw [decide_eq_true hw] at k1
      simp (maxSteps := 1000000) (disch := first | omega | decide | assumption | simp [scal]) [za_4, za_80, sz_80, loadA_eq ia_80, sz_4, loadA_eq ia_4, o_look, k1, ins, ptrV_map, p1, p2, lp45, loop_ptr, loop_ren, mp_ptr, mp_ren]
    rw [if_pos hw]
    rw [rnd_out (lp := lp45 1 3) (l1 := lp45 1 3) (l2 := { lp45 1 3 with state := .busy }) (e := .ret) rfl rfl rfl rfl rfl e1 rfl rfl e2 (by simp) rfl]
    simp (maxSteps := 1000000) (disch := first | omega | decide | assumption | simp [scal]) [ins, lp45, lpD45, loop_ptr, loop_ren, mp_ptr, mp_ren, exCode, ptrV_map, renV_map, p1, p2]
  · have e2 : codeB Try.prog LL ⟨45, 19, 4, some 0⟩ n45_10 ⟨[(7, rwV w), (13, rwV w), (12, iv i), (5, pp 1), (4, pp 3)], [.loop { lp45 1 3 with state := .busy }, mpB 2, mapB es, bB false], [0]⟩ =
        some (.normal, ⟨[(7, rwV w), (13, rwV w), (12, iv i), (5, pp 1), (4, pp 3)], [.loop { lp45 1 3 with state := .busy }, mpB 2, mapB (es ++ [w]), bB false], [0, 2]⟩) := by
      rw [decide_eq_false hw] at k1
      simp only [insS, if_neg hw] at k2
      simp (maxSteps := 1000000) (disch := first | omega | decide | assumption | simp [scal]) [za_4, za_80, sz_80, loadA_eq ia_80, sz_4, loadA_eq ia_4, o_look, o_mapU, k1, k2, ins, ptrV_map, p1, p3, lp45, loop_ptr, mp_ptr, mp_ren]
    rw [if_neg hw]
    rw [rnd_step (lp := lp45 1 3) (l1 := lp45 1 3) (l2 := { lp45 1 3 with state := .busy }) rfl rfl rfl rfl rfl e1 rfl rfl e2 rfl]
    simp (maxSteps := 1000000) (disch := first | omega | decide | assumption | simp [scal]) [ins, lp45, loop_ptr, loop_ren, mp_ptr, mp_ren, ptrV_map, renV_map, p1, p2, p3, p4]
end Go.Proofs.Ytjimphlkhjmaiaa.sw
namespace Go.Proofs.Ytjimphlkhjmaiaa.sw
open Go.GE
set_option linter.unusedVariables false
set_option linter.unusedSimpArgs false
set_option linter.unusedSectionVars false
set_option maxRecDepth 100000
set_option maxHeartbeats 4000000
attribute [local simp] runOps_nil runOps_cons runOpsF_nil runOpsF_cons fstS_some fstF_some opStep_eq want_none oStep_true oStep_false fin_pure fin_read fin_alloc fin_write storeB wrN cellV addWr o_move o_assign o_pick o_alloc o_box o_load o_store o_nilCheck o_bin o_un o_extract o_callV o_callB o_callI callV_f callV_y callV_fc o_makeFunc partsA Instr.fill builtin_len builtin_max2 bin_add bin_sub bin_mul bin_quo bin_rem bin_lss bin_leq bin_gtr bin_geq bin_eql bin_neq un_neg un_not bin_shr bin_shl wrap_u64_id opd opds optAll putO nbeq nblt constOk isC ops sub cl cr co bodyOf thenS_normal thenS_ret thenS_exit thenS_goto afterN_normal afterN_ret afterN_exit afterN_goto condS_true condS_false blockS_normal blockS_ret blockS_exit blockS_goto headS normS normK_eq fixS_nil fixS_cons fix1 fixV emptyB keepO_nil keepO_cons roundC_normal roundC_exit roundC_ret roundC_goto sweep_eq sweepD rnm pickR pickW rootsB ptrT renT ptrFn renFn ptrB_flat ptrB_non renB_flat renB_non plainS_some drawS_some fpsOk disj unord range' dropTo enumT undef wrap_i64_id Value.cells mkCells ptrTo scal cellsAt rdN endS_ret resultsA Option.bind_some tupV finish reachN dep ptrL_eq ptrL renL_eq renL ptrV_bool ptrV_int ptrV_string ptrV_nilFunc ptrV_nilIface ptrV_nilPtr ptrV_ptr ptrV_nilSl ptrV_sl ptrV_iface ptrV_agg ptrV_tuple ptrV_func renV_bool renV_int renV_string renV_nilFunc renV_nilIface renV_nilPtr renV_ptr renV_nilSl renV_sl renV_iface renV_agg renV_tuple renV_func gotoS_goto gotoS_normal gotoS_exit gotoS_ret skip_seq sliceE bnd bndHi intOf optOpd keepT_nil keepT_cons keepC_t keepC_f lk_nil lk_cons lkC_t lkC_f has_nil has_cons hasC_t hasC_f rep_nil rep_cons repC_t repC_f put_eq putC_t putC_f mem_nil mem_cons memC_t memC_f idx_nil idx_cons idxC_t idxC_f reach_nil reachP_cons reachQ_t reachQ_f ptrB_dead renB_dead ins_eq
attribute [local simp] n55_1s n55_3s n55_7s n55_10s n55_11s n55_9s n55_14s n55_16s n55_18s n55_19s n55_17s n55_15s n55_13s n55_12s n55_8s n55_6s n55_5s n55_5g n55_4s n55_2s n55_0s Try.f55
theorem y45 (i : Nat) (w : List Bool) (es : List (List Bool)) (rest : List Blk) : yieldH LL 0 [iv i, rwV w] (.loop (lp45 1 3) :: mpB 2 :: mapB es :: bB false :: rest) =
    if w ∈ es then some ⟨.bool false, .loop (lpD45 1 3) :: mpB 2 :: mapB es :: bB false :: rest, [0, 1, 2, 3], [0, 3]⟩ else some ⟨.bool true, .loop (lp45 1 3) :: mpB 2 :: mapB (es ++ [w]) :: bB false :: rest, [0, 1, 2, 3], [0, 2]⟩ := by
  have e := r45 i w es
  have p1 := @map_ptr es
  have p2 := fun f => @map_ren f es
  have p3 := @map_ptr (es ++ [w])
  have p4 := fun f => @map_ren f (es ++ [w])
  have hm : ∀ q : Nat, 20 < q → reach (.loop (lp45 1 3) :: mpB 2 :: mapB es :: bB false :: rest) 0 q [0] [] = [0, 1, 2, 3] := by
    intro q hq
    obtain ⟨q, rfl⟩ : ∃ j, q = j + 20 := ⟨q - 20, by omega⟩
    simp [reach_cons, reachC_t, reachC_f, reach_nil, rootsB, GE.mem, nblt, nbeq, loop_ptr, mp_ptr, p1, ptrB_flat, lp45, ptrT, ptrV_ptr, ptrV_map, dep]
  unfold yieldH
  have hp : 0 :: ([iv i, rwV w] : List Value).flatMap (ptrV dep) = [0] := rfl
  have hr : ∀ g, optAll (renV g dep) [iv i, rwV w] = some [iv i, rwV w] := fun _ => rfl
  simp only [hp, hm reachN (by decide), hr]
  by_cases h : w ∈ es
  · rw [if_pos h] at e ⊢
    simp only [lp45, lpD45] at e ⊢
    simp [optAll, loop_ren, mp_ren, p2, renB_flat, renT, renV_ptr, renV_map, dep, idx, nbeq, e, mergeB, renV_bool, nblt]
  · rw [if_neg h] at e ⊢
    simp only [lp45] at e ⊢
    simp [optAll, loop_ren, mp_ren, p2, p4, renB_flat, renT, renV_ptr, renV_map, dep, idx, nbeq, e, mergeB, renV_bool, nblt]
/-- are the windows from an index on different, and none of them met before? -/
def difW (l : List Bool) (k : Nat) : Nat → Nat → List (List Bool) → Bool
  | 0, _, _ => true
  | q + 1, i, es => if winB l k i ∈ es then false else difW l k q (i + 1) (es ++ [winB l k i])
section
variable (l : List Bool) (k : Nat) (h1 : 1 ≤ l.length) (h64 : l.length ≤ 64) (hk : k ≤ 64)
include h1 h64 hk
theorem l55b : ∀ (q p : Nat) (es : List (List Bool)) (W : List Nat), p + q = l.length → (W = [] ∨ W = [0, 2]) →
    (difW l k q p es = true → ∃ es' W', (W' = [0, 2] ∨ W' = W ∧ es' = es) ∧
      lpB Try.prog LL ⟨55, 28, 6, none⟩ n55_5 n55_6 ⟨[(0, .func (.yield 0) #[] #[]), (2, pp 5), (4, rwV (longB l k)), (14, pp 6)], [.loop (lp45 1 3), mpB 2, mapB es, bB false, strB l, intB k, .siter ⟨(markU l).toArray⟩ p], W⟩ =
        some (.exit 0, ⟨[], [.loop (lp45 1 3), mpB 2, mapB es', bB false, strB l, intB k], W'⟩)) ∧
    (difW l k q p es = false → ∃ es' W', (W' = [0, 2, 3] ∨ W = [] ∧ W' = [0, 3] ∧ es' = es) ∧
      lpB Try.prog LL ⟨55, 28, 6, none⟩ n55_5 n55_6 ⟨[(0, .func (.yield 0) #[] #[]), (2, pp 5), (4, rwV (longB l k)), (14, pp 6)], [.loop (lp45 1 3), mpB 2, mapB es, bB false, strB l, intB k, .siter ⟨(markU l).toArray⟩ p], W⟩ =
        some (.ret, ⟨[], [.loop (lpD45 1 3), mpB 2, mapB es', bB false, strB l, intB k], W'⟩)) := by
  intro q
  induction q with
  | zero =>
    intro p es W hp hW
    refine ⟨fun _ => ⟨es, W, by rcases hW with rfl | rfl <;> simp, ?_⟩, fun h => by simp [difW] at h⟩
    have n1 := @next_end [.loop (lp45 1 3), mpB 2, mapB es, bB false, strB l, intB k, .siter ⟨(markU l).toArray⟩ p] 6 p l rfl (by omega)
    have p1 := @map_ptr es
    have p2 := fun f => @map_ren f es
    simp only [lp45] at n1 ⊢
    unfold mapB at *
    generalize mapS es = E at *
    generalize (⟨(markU l).toArray⟩ : ByteArray) = s at *
    rw [lpB_eq]
    rcases hW with rfl | rfl <;>
    simp (maxSteps := 1000000) (disch := first | omega | decide | assumption | simp [scal]) [loadA_eq ia_9, loadA_eq ia_3, siter_ptr, siter_ren, o_nextT, n1, loop_ptr, loop_ren, mp_ptr, mp_ren, p1, p2]
  | succ q ih =>
    intro p es W hp hW
    have hpl : p < l.length := by omega
    have n1 := @next_row [.loop (lp45 1 3), mpB 2, mapB es, bB false, strB l, intB k, .siter ⟨(markU l).toArray⟩ p] 6 p l rfl hpl
    have s1 := fun h => @slice_win l k p hpl h
    have w1 : IntKind.i64.wrap ((p : Int) + (k : Int)) = (p : Int) + k := wrap_i64_id (by omega) (by omega)
    have y1 := y45 p (winB l k p) es [strB l, intB k, .siter ⟨(markU l).toArray⟩ (p + 1)]
    have p1 := @map_ptr es
    have p2 := fun f => @map_ren f es
    have p3 := @map_ptr (es ++ [winB l k p])
    have p4 := fun f => @map_ren f (es ++ [winB l k p])
    simp only [difW]
    by_cases h : winB l k p ∈ es
    · rw [if_pos h] at y1
      simp only [if_pos h]
      refine ⟨fun h => by simp at h, fun _ => ⟨es, (match W with | [] => [0, 3] | _ => [0, 2, 3]), by rcases hW with rfl | rfl <;> simp, ?_⟩⟩
      clear ih p3 p4 h
      simp only [lp45, lpD45, List.set_cons_succ, List.set_cons_zero] at n1 y1 ⊢
      unfold mapB at *
      generalize mapS es = E at *
      generalize (⟨(markU l).toArray⟩ : ByteArray) = s at *
      generalize ((cond (l.getD p false) 49 48 : Nat) : Int) = rr at *
      generalize winB l k p = w at *
      rw [show rwV (longB l k) = .string ⟨(markU (longB l k)).toArray⟩ from rfl]
      generalize (⟨(markU (longB l k)).toArray⟩ : ByteArray) = ls at *
      rw [lpB_eq]
      rcases hW with rfl | rfl <;>
      simp (maxSteps := 1000000) (disch := first | omega | decide | assumption | simp [scal]) [loadA_eq ia_9, loadA_eq ia_3, siter_ptr, siter_ren, o_nextT, n1, o_sliceT, s1, w1, y1, callV_y, addWr, ins, loop_ptr, loop_ren, mp_ptr, mp_ren, p1, p2]
    · rw [if_neg h] at y1
      simp only [if_neg h]
      obtain ⟨i1, i2⟩ := ih (p + 1) (es ++ [winB l k p]) [0, 2] (by omega) (.inr rfl)
      clear ih
      have key : lpB Try.prog LL ⟨55, 28, 6, none⟩ n55_5 n55_6 ⟨[(0, .func (.yield 0) #[] #[]), (2, pp 5), (4, rwV (longB l k)), (14, pp 6)], [.loop (lp45 1 3), mpB 2, mapB es, bB false, strB l, intB k, .siter ⟨(markU l).toArray⟩ p], W⟩ =
          lpB Try.prog LL ⟨55, 28, 6, none⟩ n55_5 n55_6 ⟨[(0, .func (.yield 0) #[] #[]), (2, pp 5), (4, rwV (longB l k)), (14, pp 6)], [.loop (lp45 1 3), mpB 2, mapB (es ++ [winB l k p]), bB false, strB l, intB k, .siter ⟨(markU l).toArray⟩ (p + 1)], [0, 2]⟩ := by
        clear i1 i2 h
        simp only [lp45, List.set_cons_succ, List.set_cons_zero] at n1 y1 ⊢
        unfold mapB at *
        generalize mapS (es ++ [winB l k p]) = E2 at *
        generalize mapS es = E at *
        generalize (⟨(markU l).toArray⟩ : ByteArray) = s at *
        generalize ((cond (l.getD p false) 49 48 : Nat) : Int) = rr at *
        generalize winB l k p = w at *
        rw [show rwV (longB l k) = .string ⟨(markU (longB l k)).toArray⟩ from rfl]
        generalize (⟨(markU (longB l k)).toArray⟩ : ByteArray) = ls at *
        conv => lhs; rw [lpB_eq]
        rcases hW with rfl | rfl <;>
        simp (maxSteps := 1000000) (disch := first | omega | decide | assumption | simp [scal]) [loadA_eq ia_9, loadA_eq ia_3, siter_ptr, siter_ren, o_nextT, n1, o_sliceT, s1, w1, y1, callV_y, addWr, ins, loop_ptr, loop_ren, mp_ptr, mp_ren, p1, p2, p3, p4]
      rw [key]
      refine ⟨fun hd => ?_, fun hd => ?_⟩
      · obtain ⟨es', W', g1, g2⟩ := i1 hd
        rcases g1 with rfl | ⟨rfl, rfl⟩
        · exact ⟨es', _, .inl rfl, g2⟩
        · exact ⟨_, _, .inl rfl, g2⟩
      · obtain ⟨es', W', g1, g2⟩ := i2 hd
        rcases g1 with rfl | ⟨z, _⟩
        · exact ⟨es', _, .inl rfl, g2⟩
        · cases z
end
end Go.Proofs.Ytjimphlkhjmaiaa.sw
namespace Go.Proofs.Ytjimphlkhjmaiaa.sw
open Go.GE
set_option linter.unusedVariables false
set_option linter.unusedSimpArgs false
set_option linter.unusedSectionVars false
set_option maxRecDepth 100000
set_option maxHeartbeats 4000000
attribute [local simp] runOps_nil runOps_cons runOpsF_nil runOpsF_cons fstS_some fstF_some opStep_eq want_none oStep_true oStep_false fin_pure fin_read fin_alloc fin_write storeB wrN cellV addWr o_move o_assign o_pick o_alloc o_box o_load o_store o_nilCheck o_bin o_un o_extract o_callV o_callB o_callI callV_f callV_y callV_fc o_makeFunc partsA Instr.fill builtin_len builtin_max2 bin_add bin_sub bin_mul bin_quo bin_rem bin_lss bin_leq bin_gtr bin_geq bin_eql bin_neq un_neg un_not bin_shr bin_shl wrap_u64_id opd opds optAll putO nbeq nblt constOk isC ops sub cl cr co bodyOf thenS_normal thenS_ret thenS_exit thenS_goto afterN_normal afterN_ret afterN_exit afterN_goto condS_true condS_false blockS_normal blockS_ret blockS_exit blockS_goto headS normS normK_eq fixS_nil fixS_cons fix1 fixV emptyB keepO_nil keepO_cons roundC_normal roundC_exit roundC_ret roundC_goto sweep_eq sweepD rnm pickR pickW rootsB ptrT renT ptrFn renFn ptrB_flat ptrB_non renB_flat renB_non plainS_some drawS_some fpsOk disj unord range' dropTo enumT undef wrap_i64_id Value.cells mkCells ptrTo scal cellsAt rdN endS_ret resultsA Option.bind_some tupV finish reachN dep ptrL_eq ptrL renL_eq renL ptrV_bool ptrV_int ptrV_string ptrV_nilFunc ptrV_nilIface ptrV_nilPtr ptrV_ptr ptrV_nilSl ptrV_sl ptrV_iface ptrV_agg ptrV_tuple ptrV_func renV_bool renV_int renV_string renV_nilFunc renV_nilIface renV_nilPtr renV_ptr renV_nilSl renV_sl renV_iface renV_agg renV_tuple renV_func gotoS_goto gotoS_normal gotoS_exit gotoS_ret skip_seq sliceE bnd bndHi intOf optOpd keepT_nil keepT_cons keepC_t keepC_f lk_nil lk_cons lkC_t lkC_f has_nil has_cons hasC_t hasC_f rep_nil rep_cons repC_t repC_f put_eq putC_t putC_f mem_nil mem_cons memC_t memC_f idx_nil idx_cons idxC_t idxC_f reach_nil reachP_cons reachQ_t reachQ_f ptrB_dead renB_dead ins_eq
attribute [local simp] n55_1s n55_3s n55_7s n55_10s n55_11s n55_9s n55_14s n55_16s n55_18s n55_19s n55_17s n55_15s n55_13s n55_12s n55_8s n55_6s n55_5s n55_5g n55_4s n55_2s n55_0s Try.f55 n45_1s n45_3s n45_6s n45_9s n45_13s n45_16s n45_17s n45_15s n45_18s n45_14s n45_12s n45_19s n45_11s n45_10s n45_7s n45_5s n45_21s n45_22s n45_20s n45_4s n45_2s n45_0s Try.f45
section
variable (l : List Bool) (k : Nat) (h1 : 1 ≤ l.length) (h64 : l.length ≤ 64) (hk : k ≤ 64)
include h1 h64 hk
theorem c55b :
    (difW l k l.length 0 [] = true → ∃ es' ws, (ws = [(0, .loop (lp45 1 3)), (2, mapB es')] ∨ ws = [] ∧ es' = []) ∧
      LL.run 55 [.func (.yield 0) #[] #[], pp 4, pp 5] [.loop (lp45 1 3), mpB 2, mapB [], bB false, strB l, intB k] = some ⟨.tuple #[], [], ws⟩) ∧
    (difW l k l.length 0 [] = false → ∃ es' ws, (ws = [(0, .loop (lpD45 1 3)), (2, mapB es'), (3, bB false)] ∨ ws = [(0, .loop (lpD45 1 3)), (3, bB false)] ∧ es' = []) ∧
      LL.run 55 [.func (.yield 0) #[] #[], pp 4, pp 5] [.loop (lp45 1 3), mpB 2, mapB [], bB false, strB l, intB k] = some ⟨.tuple #[], [], ws⟩) := by
  obtain ⟨t1, t2⟩ := l55b l k h1 h64 hk l.length 0 [] [] (by omega) (.inl rfl)
  have d1 : ((k : Int).tdiv (l.length : Int)) = ((k / l.length : Nat) : Int) := rfl
  have hd : k / l.length ≤ k := Nat.div_le_self _ _
  have w1 : IntKind.i64.wrap ((k / l.length : Nat) : Int) = ((k / l.length : Nat) : Int) := wrap_nn (by omega)
  have w2 : IntKind.i64.wrap (2 + ((k / l.length : Nat) : Int)) = ((2 + k / l.length : Nat) : Int) := by rw [show (2 : Int) + ((k / l.length : Nat) : Int) = ((2 + k / l.length : Nat) : Int) from (by simp)]; exact wrap_nn (by omega)
  have a1 : ∀ h, callH LL 56 [rwV l, iv (2 + ((k / l.length : Nat) : Int))] h = some ⟨rwV (repB l (2 + k / l.length)), h, [], []⟩ := fun h => by
    have := k56 l (2 + k / l.length) (by omega) (by omega) h
    rw [show ((2 + k / l.length : Nat) : Int) = (2 : Int) + ((k / l.length : Nat) : Int) from (by simp)] at this
    exact this
  have a2 : ∀ h, lenA Try.prog h 9 (.string ⟨(markU l).toArray⟩) = some (iv (markU l).length, []) := fun h => @lenA_st h (markU l)
  have hz : ¬ ((l.length : Int) = 0) := by omega
  rw [mark_len] at a2
  have q1 : mapB [] = .map [] := rfl
  have pre : ∀ R, lpB Try.prog LL ⟨55, 28, 6, none⟩ n55_5 n55_6 ⟨[(0, .func (.yield 0) #[] #[]), (2, pp 5), (4, rwV (longB l k)), (14, pp 6)], [.loop (lp45 1 3), mpB 2, mapB [], bB false, strB l, intB k, .siter ⟨(markU l).toArray⟩ 0], []⟩ = some R → (∃ h ws, R = (.exit 0, ⟨[], h, ws⟩) ∨ R = (.ret, ⟨[], h, ws⟩)) →
      LL.run 55 [.func (.yield 0) #[] #[], pp 4, pp 5] [.loop (lp45 1 3), mpB 2, mapB [], bB false, strB l, intB k] = endS Try.prog [] 6 (some (match R with | (.ret, s) => (.ret, s) | (_, s) => (.normal, s))) := by
    intro R this hR
    refine (L_run_eq rfl).trans ?_
    rw [run55 _ _ _ (by simp)]
    clear t1 t2
    rw [q1] at *
    simp only [lp45, longB] at this ⊢
    generalize repB l (2 + k / l.length) = lb at *
    generalize k / l.length = kd at *
    unfold strB rwV st at *
    generalize (⟨(markU l).toArray⟩ : ByteArray) = s at *
    obtain ⟨h, ws, rfl | rfl⟩ := hR
    · simp (maxSteps := 1000000) (disch := first | omega | decide | assumption | simp [scal]) [loadA_eq ia_9, loadA_eq ia_3, siter_ptr, siter_ren, o_rangeT, loop_ptr, loop_ren, mp_ptr, mp_ren, d1, hz, w1, w2, a1, a2, this]
    · simp (maxSteps := 1000000) (disch := first | omega | decide | assumption | simp [scal]) [loadA_eq ia_9, loadA_eq ia_3, siter_ptr, siter_ren, o_rangeT, loop_ptr, loop_ren, mp_ptr, mp_ren, d1, hz, w1, w2, a1, a2, this]
  refine ⟨fun hd => ?_, fun hd => ?_⟩
  · obtain ⟨es', W', g1, g2⟩ := t1 hd
    have p1 := @map_ptr es'
    have p2 := fun f => @map_ren f es'
    have := pre _ g2 ⟨_, _, .inl rfl⟩
    rcases g1 with rfl | ⟨rfl, rfl⟩
    · refine ⟨es', _, .inl rfl, this.trans ?_⟩
      simp only [lp45]
      unfold mapB at *
      generalize mapS es' = E at *
      simp [endS_normal, finish, loop_ptr, loop_ren, renB_flat, p1, p2, renT, renV_ptr]
    · refine ⟨[], _, .inr ⟨rfl, rfl⟩, this.trans ?_⟩
      simp [endS_normal, finish]
  · obtain ⟨es', W', g1, g2⟩ := t2 hd
    have p1 := @map_ptr es'
    have p2 := fun f => @map_ren f es'
    have := pre _ g2 ⟨_, _, .inr rfl⟩
    rcases g1 with rfl | ⟨_, rfl, rfl⟩
    · refine ⟨es', _, .inl rfl, this.trans ?_⟩
      simp only [lp45, lpD45]
      unfold mapB at *
      generalize mapS es' = E at *
      simp [endS, finish, loop_ptr, loop_ren, renB_flat, p1, p2, renT, renV_ptr]
    · refine ⟨[], _, .inr ⟨rfl, rfl⟩, this.trans ?_⟩
      simp only [lp45, lpD45]
      simp [endS, finish, loop_ptr, loop_ren, renB_flat, p1, p2, renT, renV_ptr]
theorem h55b :
    (difW l k l.length 0 [] = true → ∃ es' W, (W = [5, 1] ∨ W = []) ∧
      callH LL 55 [.func (.yield 5) #[] #[], pp 3, pp 4] [bB false, mapB [], mpB 1, strB l, intB k, .loop (lp45 2 0)] =
        some ⟨.tuple #[], [bB false, mapB es', mpB 1, strB l, intB k, .loop (lp45 2 0)], [5, 2, 1, 0, 3, 4], W⟩) ∧
    (difW l k l.length 0 [] = false → ∃ es' W, (W = [5, 1, 0] ∨ W = [5, 0]) ∧
      callH LL 55 [.func (.yield 5) #[] #[], pp 3, pp 4] [bB false, mapB [], mpB 1, strB l, intB k, .loop (lp45 2 0)] =
        some ⟨.tuple #[], [bB false, mapB es', mpB 1, strB l, intB k, .loop (lpD45 2 0)], [5, 2, 1, 0, 3, 4], W⟩) := by
  obtain ⟨t1, t2⟩ := c55b l k h1 h64 hk
  have p0 : ptrB (mapB []) = [] := rfl
  have hm : ∀ q : Nat, 20 < q → reach [bB false, mapB [], mpB 1, strB l, intB k, .loop (lp45 2 0)] 0 q [5, 3, 4] [] = [5, 2, 1, 0, 3, 4] := by
    intro q hq
    obtain ⟨q, rfl⟩ : ∃ j, q = j + 20 := ⟨q - 20, by omega⟩
    simp [reach_cons, reachC_t, reachC_f, reach_nil, rootsB, GE.mem, nblt, nbeq, loop_ptr, mp_ptr, p0, ptrB_flat, lp45, ptrT, ptrV_ptr, ptrV_map, dep]
  have hp : ([.func (.yield 5) #[] #[], pp 3, pp 4] : List Value).flatMap (ptrV dep) = [5, 3, 4] := rfl
  have q0 : ∀ f, renB f (mapB []) = some (mapB []) := fun f => rfl
  have key : ∀ rr, LL.run 55 [.func (.yield 0) #[] #[], pp 4, pp 5] [.loop (lp45 1 3), mpB 2, mapB [], bB false, strB l, intB k] = some rr →
      callH0 LL 55 [.func (.yield 5) #[] #[], pp 3, pp 4] [bB false, mapB [], mpB 1, strB l, intB k, .loop (lp45 2 0)] =
        mergeB [bB false, mapB [], mpB 1, strB l, intB k, .loop (lp45 2 0)] [5, 2, 1, 0, 3, 4] rr := by
    intro rr hrr
    unfold callH0
    simp only [hp, hm reachN (by decide)]
    simp only [lp45] at hrr ⊢
    simp [optAll, renV_func, renFn, renL, renV_ptr, dep, idx, nbeq, loop_ren, mp_ren, q0, renB_flat, renT, renL_eq, renV_int, renV_sl, renV_map, hrr]
  refine ⟨fun hd => ?_, fun hd => ?_⟩
  · obtain ⟨es', ws, g1, g2⟩ := t1 hd
    have p2 := fun f => @map_ren f es'
    rcases g1 with rfl | ⟨rfl, rfl⟩
    · refine ⟨es', _, .inl rfl, callH_of (by intro _; first | trivial | rfl) ?_ (by simp)⟩
      rw [key _ g2]
      simp only [lp45]
      simp [mergeB, renV_tuple, renL, dep, optAll, loop_ren, mp_ren, p2, renB_flat, renT, renV_ptr, nblt]
    · refine ⟨[], _, .inr rfl, callH_of (by intro _; first | trivial | rfl) ?_ (by simp)⟩
      rw [key _ g2]
      simp [mergeB, renV_tuple, renL, dep, optAll]
  · obtain ⟨es', ws, g1, g2⟩ := t2 hd
    have p2 := fun f => @map_ren f es'
    rcases g1 with rfl | ⟨rfl, rfl⟩
    · refine ⟨es', _, .inl rfl, callH_of (by intro _; first | trivial | rfl) ?_ (by simp)⟩
      rw [key _ g2]
      simp only [lp45, lpD45]
      simp [mergeB, renV_tuple, renL, dep, optAll, loop_ren, mp_ren, p2, renB_flat, renT, renV_ptr, nblt]
    · refine ⟨[], _, .inr rfl, callH_of (by intro _; first | trivial | rfl) ?_ (by simp)⟩
      rw [key _ g2]
      simp only [lp45, lpD45]
      simp [mergeB, renV_tuple, renL, dep, optAll, loop_ren, mp_ren, p2, renB_flat, renT, renV_ptr, nblt]
/-- all windows of a length are different -/
abbrev difB (l : List Bool) (k : Nat) : Bool := difW l k l.length 0 []
theorem k45 (h : List Blk) : callH LL 45 [rwV l, iv k] h = some ⟨.bool (difB l k), h, [], []⟩ := by
  refine callH_none rfl (fun _ => rfl) (L_run rfl ?_) fun _ => rfl
  obtain ⟨t1, t2⟩ := h55b l k h1 h64 hk
  have c2 := fun h => k40 l k h
  have q1 : mapB [] = .map [] := rfl
  have q2 : mapS [] = [] := rfl
  have q3 : ptrB (.map []) = [] := rfl
  have q4 : ∀ f, renB f (.map []) = some (.map []) := fun f => rfl
  rw [run45 _ _ _ (by simp)]
  rcases Bool.eq_false_or_eq_true (difB l k) with w | w
  · obtain ⟨es', W, hW, e⟩ := t1 w
    rw [w]
    have p1 := @map_ptr es'
    have p2 := fun f => @map_ren f es'
    rw [q1] at e
    simp only [lp45] at e
    clear t1 t2 w
    unfold mapB at e
    generalize mapS es' = E at *
    simp (maxSteps := 1000000) (disch := first | omega | decide | assumption | simp [scal]) [za_4, za_80, sz_80, loadA_eq ia_80, sz_4, loadA_eq ia_4, o_makeMap, allocR, c2, ptrV_map, renV_map, mp_ptr, mp_ren, q2, q3, q4]
    rw [range_step n45_8e n45_8k rfl]
    simp (maxSteps := 1000000) (disch := first | omega | decide | assumption | simp [scal]) [za_4, za_80, sz_80, loadA_eq ia_80, sz_4, loadA_eq ia_4, o_makeMap, allocR, c2, ptrV_map, renV_map, mp_ptr, mp_ren, e]
    rw [rangeE_ready rfl rfl rfl]
    rcases hW with rfl | rfl <;>
    simp (maxSteps := 1000000) (disch := first | omega | decide | assumption | simp [scal]) [za_4, za_80, sz_80, loadA_eq ia_80, sz_4, loadA_eq ia_4, addWr, ptrV_map, renV_map, mp_ptr, mp_ren, p1, p2]
  · obtain ⟨es', W, hW, e⟩ := t2 w
    rw [w]
    have p1 := @map_ptr es'
    have p2 := fun f => @map_ren f es'
    rw [q1] at e
    simp only [lp45, lpD45] at e
    clear t1 t2 w
    unfold mapB at e
    generalize mapS es' = E at *
    simp (maxSteps := 1000000) (disch := first | omega | decide | assumption | simp [scal]) [za_4, za_80, sz_80, loadA_eq ia_80, sz_4, loadA_eq ia_4, o_makeMap, allocR, c2, ptrV_map, renV_map, mp_ptr, mp_ren, q2, q3, q4]
    rw [range_step n45_8e n45_8k rfl]
    simp (maxSteps := 1000000) (disch := first | omega | decide | assumption | simp [scal]) [za_4, za_80, sz_80, loadA_eq ia_80, sz_4, loadA_eq ia_4, o_makeMap, allocR, c2, ptrV_map, renV_map, mp_ptr, mp_ren, e]
    rw [rangeE_done (e := .ret) rfl rfl rfl rfl]
    rcases hW with rfl | rfl <;>
    simp (maxSteps := 1000000) (disch := first | omega | decide | assumption | simp [scal]) [za_4, za_80, sz_80, loadA_eq ia_80, sz_4, loadA_eq ia_4, addWr, ptrV_map, renV_map, mp_ptr, mp_ren, p1, p2]
end
end Go.Proofs.Ytjimphlkhjmaiaa.sw
namespace Go.Proofs.Ytjimphlkhjmaiaa.sw
open Go.GE
set_option linter.unusedVariables false
set_option linter.unusedSimpArgs false
set_option linter.unusedSectionVars false
set_option maxRecDepth 100000
set_option maxHeartbeats 4000000
attribute [local simp] runOps_nil runOps_cons runOpsF_nil runOpsF_cons fstS_some fstF_some opStep_eq want_none oStep_true oStep_false fin_pure fin_read fin_alloc fin_write storeB wrN cellV addWr o_move o_assign o_pick o_alloc o_box o_load o_store o_nilCheck o_bin o_un o_extract o_callV o_callB o_callI callV_f callV_y callV_fc o_makeFunc partsA Instr.fill builtin_len builtin_max2 bin_add bin_sub bin_mul bin_quo bin_rem bin_lss bin_leq bin_gtr bin_geq bin_eql bin_neq un_neg un_not bin_shr bin_shl wrap_u64_id opd opds optAll putO nbeq nblt constOk isC ops sub cl cr co bodyOf thenS_normal thenS_ret thenS_exit thenS_goto afterN_normal afterN_ret afterN_exit afterN_goto condS_true condS_false blockS_normal blockS_ret blockS_exit blockS_goto headS normS normK_eq fixS_nil fixS_cons fix1 fixV emptyB keepO_nil keepO_cons roundC_normal roundC_exit roundC_ret roundC_goto sweep_eq sweepD rnm pickR pickW rootsB ptrT renT ptrFn renFn ptrB_flat ptrB_non renB_flat renB_non plainS_some drawS_some fpsOk disj unord range' dropTo enumT undef wrap_i64_id Value.cells mkCells ptrTo scal cellsAt rdN endS_ret resultsA Option.bind_some tupV finish reachN dep ptrL_eq ptrL renL_eq renL ptrV_bool ptrV_int ptrV_string ptrV_nilFunc ptrV_nilIface ptrV_nilPtr ptrV_ptr ptrV_nilSl ptrV_sl ptrV_iface ptrV_agg ptrV_tuple ptrV_func renV_bool renV_int renV_string renV_nilFunc renV_nilIface renV_nilPtr renV_ptr renV_nilSl renV_sl renV_iface renV_agg renV_tuple renV_func gotoS_goto gotoS_normal gotoS_exit gotoS_ret skip_seq sliceE bnd bndHi intOf optOpd keepT_nil keepT_cons keepC_t keepC_f lk_nil lk_cons lkC_t lkC_f has_nil has_cons hasC_t hasC_f rep_nil rep_cons repC_t repC_f put_eq putC_t putC_f mem_nil mem_cons memC_t memC_f idx_nil idx_cons idxC_t idxC_f reach_nil reachP_cons reachQ_t reachQ_f ptrB_dead renB_dead ins_eq
attribute [local simp] n19_1s n19_4s n19_6s n19_9s n19_10s n19_8s n19_11s n19_7s n19_5s n19_3s n19_14s n19_18s n19_21s n19_22s n19_20s n19_26s n19_28s n19_31s n19_32s n19_30s n19_33s n19_29s n19_27s n19_25s n19_24s n19_34s n19_23s n19_19s n19_17s n19_16s n19_16g n19_15s n19_13s n19_36s n19_37s n19_35s n19_12s n19_2s n19_0s Try.f19 n37_1s n37_3s n37_9s n37_11s n37_12s n37_10s n37_8s n37_14s n37_13s n37_7s n37_6s n37_6g n37_5s n37_16s n37_19s n37_23s n37_26s n37_27s n37_25s n37_30s n37_31s n37_29s n37_28s n37_24s n37_22s n37_21s n37_21g n37_20s n37_18s n37_33s n37_34s n37_32s n37_17s n37_15s n37_4s n37_2s n37_0s Try.f37
def fstD (l : List Bool) : Nat → Nat → Option Nat
  | 0, _ => none
  | q + 1, k => if difB l k = true then some k else fstD l q (k + 1)
def clrV (l : List Bool) : Nat × Nat := match fstD l (l.length + 1) 0 with
  | some k => (k, 0)
  | none => (0, 14)
section
variable (l : List Bool) (h1 : 1 ≤ l.length) (h64 : l.length ≤ 64)
include h1 h64
theorem l19 : ∀ (q k : Nat), k + q = l.length + 1 →
    lpB Try.prog LL ⟨19, 22, 0, none⟩ n19_16 n19_17 ⟨[(0, rwV l), (13, .int .i64 ((l.length : Int) + 1)), (14, iv k)], [], []⟩ =
      match fstD l q k with
      | some j => some (.ret, ⟨[(2, iv j), (3, iv 0)], [], []⟩)
      | none => some (.exit 0, ⟨[], [], []⟩) := by
  intro q
  induction q with
  | zero =>
    intro k hk
    have e1 : ¬ ((k : Int) < (l.length : Int) + 1) := by omega
    simp only [fstD]
    rw [lpB_eq]
    simp (maxSteps := 1000000) (disch := first | omega | decide | assumption | simp [scal]) [e1]
  | succ q ih =>
    intro k hk
    have e1 : ((k : Int) < (l.length : Int) + 1) := by omega
    have this := ih (k + 1) (by omega)
    simp only [cast1] at this
    have c1 := fun h => k45 l k h1 h64 (by omega) h
    simp only [fstD]
    by_cases hd : difB l k = true
    · rw [hd] at c1
      simp only [hd, if_true]
      rw [lpB_eq]
      simp (maxSteps := 1000000) (disch := first | omega | decide | assumption | simp [scal]) [e1, c1]
    · have hd' : difB l k = false := by simpa using hd
      rw [hd'] at c1
      simp only [hd', Bool.false_eq_true, if_false]
      rw [← this]
      clear this ih
      have this := Eq.refl (lpB Try.prog LL ⟨19, 22, 0, none⟩ n19_16 n19_17 ⟨[(0, rwV l), (13, .int .i64 ((l.length : Int) + 1)), (14, .int .i64 ((k : Int) + 1))], [], []⟩)
      conv => lhs; rw [lpB_eq]
      simp (maxSteps := 1000000) (disch := first | omega | decide | assumption | simp [scal]) [e1, c1]
theorem k19 (h : List Blk) : callH LL 19 [rwV l] h = some ⟨.tuple #[iv (clrV l).1, iv (clrV l).2], h, [], []⟩ := by
  refine callH_none rfl (fun _ => rfl) (L_run rfl ?_) fun _ => rfl
  have c1 := fun h => k22 l h1 h64 h
  have a2 := fun h => @lenA_st h (markU l)
  rw [mark_len] at a2
  have lp := l19 l h1 h64 (l.length + 1) 0 (by omega)
  simp only [Int.natCast_zero] at lp
  have w1 : IntKind.i64.wrap ((l.length : Int) + 1) = (l.length : Int) + 1 := wrap_i64_id (by omega) (by omega)
  rw [run19 _ _ _ (by simp)]
  unfold clrV
  rcases hf : fstD l (l.length + 1) 0 with _ | j
  · rw [hf] at lp
    simp only [] at lp
    simp (maxSteps := 1000000) (disch := first | omega | decide | assumption | simp [scal]) [c1, a2, w1, lp]
  · rw [hf] at lp
    simp only [] at lp
    simp (maxSteps := 1000000) (disch := first | omega | decide | assumption | simp [scal]) [c1, a2, w1, lp]
end
def rowsV (es : List (List Bool)) : List Value := es.map rwV
theorem rowsV_len {es : List (List Bool)} : (rowsV es).length = es.length := by simp [rowsV]
theorem repB_snoc {l : List Bool} : ∀ c, repB l c ++ l = repB l (c + 1) := by
  intro c
  induction c with
  | zero => simp [repB]
  | succ c ih => rw [repB, List.append_assoc, ih]; rfl
theorem win_eq {l : List Bool} {k i c : Nat} (h1 : 1 ≤ l.length) (hi : i < l.length) (hc : l.length + k ≤ c * l.length) : ((repB l c).drop i).take k = winB l k i := by
  apply List.ext_getElem?
  intro x
  by_cases hx : x < k
  · rw [win_get h1 hi hx, List.getElem?_take, if_pos hx, List.getElem?_drop, rep_get h1 _ _ (by omega)]
  · rw [List.getElem?_eq_none (by rw [List.length_take]; omega), List.getElem?_eq_none (by rw [win_len hi]; omega)]
theorem slice_rep {l : List Bool} {k i c : Nat} (h1 : 1 ≤ l.length) (hi : i < l.length) (hc : l.length + k ≤ c * l.length) (h : List Blk) : sliceB h ⟨(markU (repB l c)).toArray⟩ (some (iv i)) (some (iv ((i : Int) + k))) = pureR h (rwV (winB l k i)) := by
  have hl : (repB l c).length = c * l.length := repB_len c
  have e1 : bnd (some (iv ((i : Int) + k))) (⟨(markU (repB l c)).toArray⟩ : ByteArray).size (⟨(markU (repB l c)).toArray⟩ : ByteArray).size = some (i + k) := by
    simp only [bnd, intOf, st_size, mark_len]
    rw [if_pos (by omega)]
    congr 1
  have e2 : bnd (some (iv i)) (i + k) 0 = some i := by
    simp only [bnd, intOf]
    rw [if_pos (by omega)]
    congr 1
  simp only [sliceB, e1, e2, ext_st, mark_drop, mark_take, Nat.add_sub_cancel_left]
  rw [win_eq h1 hi hc]
section
variable (l : List Bool) (k : Nat) (h1 : 1 ≤ l.length) (h64 : l.length ≤ 64) (hk : k ≤ 64)
include h1 h64 hk
theorem l37a : ∀ (q c : Nat), l.length + k ≤ c * l.length + q → c * l.length ≤ 256 → ∃ c', l.length + k ≤ c' * l.length ∧ c' * l.length ≤ 256 ∧
    lpB Try.prog LL ⟨37, 34, 0, none⟩ n37_6 n37_7 ⟨[(0, rwV l), (1, iv k), (5, rwV (repB l c))], [], []⟩ = some (.exit 0, ⟨[(0, rwV l), (1, iv k), (5, rwV (repB l c'))], [], []⟩) := by
  have a1 := fun h => @lenA_st h (markU l)
  rw [mark_len] at a1
  have w1 : IntKind.i64.wrap ((l.length : Int) + (k : Int)) = (l.length : Int) + k := wrap_i64_id (by omega) (by omega)
  intro q
  induction q with
  | zero =>
    intro c hc hm
    refine ⟨c, by omega, hm, ?_⟩
    have a2 := fun h => @lenA_st h (markU (repB l c))
    rw [mark_len, repB_len] at a2
    obtain ⟨m, hm⟩ : ∃ m, c * l.length = m := ⟨_, rfl⟩
    rw [hm] at a2 hc
    have e1 : ¬ ((m : Int) < (l.length : Int) + k) := by omega
    rw [lpB_eq]
    simp (maxSteps := 1000000) (disch := first | omega | decide | assumption | simp [scal]) [o_indexAddrS es_26, ze_26, o_buildSlice es_26 ze_26 (by decide) ba_26_1, ap_26, builtin_append ni_26, a1, a2, w1, e1]
  | succ q ih =>
    intro c hc hm
    have a2 := fun h => @lenA_st h (markU (repB l c))
    rw [mark_len, repB_len] at a2
    by_cases hd : l.length + k ≤ c * l.length
    · refine ⟨c, hd, hm, ?_⟩
      obtain ⟨m, hm⟩ : ∃ m, c * l.length = m := ⟨_, rfl⟩
      rw [hm] at a2 hc hd
      have e1 : ¬ ((m : Int) < (l.length : Int) + k) := by omega
      rw [lpB_eq]
      simp (maxSteps := 1000000) (disch := first | omega | decide | assumption | simp [scal]) [o_indexAddrS es_26, ze_26, o_buildSlice es_26 ze_26 (by decide) ba_26_1, ap_26, builtin_append ni_26, a1, a2, w1, e1]
    · obtain ⟨c', g1, g2, g3⟩ := ih (c + 1) (by rw [Nat.succ_mul]; omega) (by rw [Nat.succ_mul]; omega)
      refine ⟨c', g1, g2, ?_⟩
      have b1 := fun t cc => @bin_adds t cc (markU (repB l c)) (markU l) (by rw [mark_len, mark_len, repB_len]; omega)
      rw [← mark_app, repB_snoc] at b1
      obtain ⟨m, hm⟩ : ∃ m, c * l.length = m := ⟨_, rfl⟩
      rw [hm] at a2 hc hd
      have e1 : ((m : Int) < (l.length : Int) + k) := by omega
      clear ih
      generalize repB l (c + 1) = L2 at *
      generalize repB l c' = L3 at *
      generalize repB l c = L1 at *
      rw [lpB_eq]
      simp (maxSteps := 1000000) (disch := first | omega | decide | assumption | simp [scal]) [o_indexAddrS es_26, ze_26, o_buildSlice es_26 ze_26 (by decide) ba_26_1, ap_26, builtin_append ni_26, a1, a2, w1, e1, b1, g3]
theorem l37b (c : Nat) (hc : l.length + k ≤ c * l.length) : ∀ (q p : Nat), p + q = l.length →
    lpB Try.prog LL ⟨37, 34, 0, none⟩ n37_21 n37_22 ⟨[(1, iv k), (5, rwV (repB l c)), (6, sl 0 0 p p), (20, pp 1)], [.cells (rowsV ((List.range p).map (winB l k))) 1 true true, .siter ⟨(markU l).toArray⟩ p], []⟩ =
      some (.exit 2, ⟨[(6, sl 0 0 l.length l.length)], [.cells (rowsV ((List.range l.length).map (winB l k))) 1 true true], []⟩) := by
  intro q
  induction q with
  | zero =>
    intro p hp
    obtain rfl : p = l.length := by omega
    have n1 := @next_end [.cells (rowsV ((List.range l.length).map (winB l k))) 1 true true, .siter ⟨(markU l).toArray⟩ l.length] 1 l.length l rfl (by omega)
    generalize rowsV ((List.range l.length).map (winB l k)) = V at *
    generalize (⟨(markU l).toArray⟩ : ByteArray) = s at *
    rw [lpB_eq]
    simp (maxSteps := 1000000) (disch := first | omega | decide | assumption | simp [scal]) [o_indexAddrS es_26, ze_26, o_buildSlice es_26 ze_26 (by decide) ba_26_1, ap_26, builtin_append ni_26, siter_ptr, siter_ren, o_nextT, n1]
  | succ q ih =>
    intro p hp
    have hpl : p < l.length := by omega
    have n1 := @next_row [.cells (rowsV ((List.range p).map (winB l k))) 1 true true, .siter ⟨(markU l).toArray⟩ p] 1 p l rfl hpl
    have s1 := fun h => @slice_rep l k p c h1 hpl hc h
    have w1 : IntKind.i64.wrap ((p : Int) + (k : Int)) = (p : Int) + k := wrap_i64_id (by omega) (by omega)
    have this := ih (p + 1) (by omega)
    have c1 := fun h b c rd => app_list (h := h) (b := b) (c := c) (k := 1) (by' := 16) (l := p) (cs := rowsV ((List.range p).map (winB l k))) (new := [rwV (winB l k p)]) (rd := rd) (by simp [rowsV]) (by omega) (by omega) rfl
    rw [show rowsV ((List.range p).map (winB l k)) ++ [rwV (winB l k p)] = rowsV ((List.range (p + 1)).map (winB l k)) by simp [rowsV, List.range_succ]] at c1
    clear ih
    simp only [List.set_cons_succ, List.set_cons_zero] at n1
    generalize rowsV ((List.range l.length).map (winB l k)) = V at *
    generalize rowsV ((List.range (p + 1)).map (winB l k)) = V2 at *
    generalize rowsV ((List.range p).map (winB l k)) = V1 at *
    generalize (⟨(markU l).toArray⟩ : ByteArray) = s at *
    generalize ((cond (l.getD p false) 49 48 : Nat) : Int) = rr at *
    generalize winB l k p = w at *
    rw [show rwV (repB l c) = .string ⟨(markU (repB l c)).toArray⟩ from rfl] at *
    generalize (⟨(markU (repB l c)).toArray⟩ : ByteArray) = ls at *
    rw [lpB_eq]
    simp (maxSteps := 1000000) (disch := first | omega | decide | assumption | simp [scal]) [o_indexAddrS es_26, ze_26, o_buildSlice es_26 ze_26 (by decide) ba_26_1, ap_26, builtin_append ni_26, siter_ptr, siter_ren, o_nextT, n1, o_sliceT, s1, w1, append_some ap_26, srcCells, c1, this]
end
end Go.Proofs.Ytjimphlkhjmaiaa.sw
namespace Go.Proofs.Ytjimphlkhjmaiaa.sw
open Go.GE
set_option linter.unusedVariables false
set_option linter.unusedSimpArgs false
set_option linter.unusedSectionVars false
set_option maxRecDepth 100000
set_option maxHeartbeats 4000000
attribute [local simp] runOps_nil runOps_cons runOpsF_nil runOpsF_cons fstS_some fstF_some opStep_eq want_none oStep_true oStep_false fin_pure fin_read fin_alloc fin_write storeB wrN cellV addWr o_move o_assign o_pick o_alloc o_box o_load o_store o_nilCheck o_bin o_un o_extract o_callV o_callB o_callI callV_f callV_y callV_fc o_makeFunc partsA Instr.fill builtin_len builtin_max2 bin_add bin_sub bin_mul bin_quo bin_rem bin_lss bin_leq bin_gtr bin_geq bin_eql bin_neq un_neg un_not bin_shr bin_shl wrap_u64_id opd opds optAll putO nbeq nblt constOk isC ops sub cl cr co bodyOf thenS_normal thenS_ret thenS_exit thenS_goto afterN_normal afterN_ret afterN_exit afterN_goto condS_true condS_false blockS_normal blockS_ret blockS_exit blockS_goto headS normS normK_eq fixS_nil fixS_cons fix1 fixV emptyB keepO_nil keepO_cons roundC_normal roundC_exit roundC_ret roundC_goto sweep_eq sweepD rnm pickR pickW rootsB ptrT renT ptrFn renFn ptrB_flat ptrB_non renB_flat renB_non plainS_some drawS_some fpsOk disj unord range' dropTo enumT undef wrap_i64_id Value.cells mkCells ptrTo scal cellsAt rdN endS_ret resultsA Option.bind_some tupV finish reachN dep ptrL_eq ptrL renL_eq renL ptrV_bool ptrV_int ptrV_string ptrV_nilFunc ptrV_nilIface ptrV_nilPtr ptrV_ptr ptrV_nilSl ptrV_sl ptrV_iface ptrV_agg ptrV_tuple ptrV_func renV_bool renV_int renV_string renV_nilFunc renV_nilIface renV_nilPtr renV_ptr renV_nilSl renV_sl renV_iface renV_agg renV_tuple renV_func gotoS_goto gotoS_normal gotoS_exit gotoS_ret skip_seq sliceE bnd bndHi intOf optOpd keepT_nil keepT_cons keepC_t keepC_f lk_nil lk_cons lkC_t lkC_f has_nil has_cons hasC_t hasC_f rep_nil rep_cons repC_t repC_f put_eq putC_t putC_f mem_nil mem_cons memC_t memC_f idx_nil idx_cons idxC_t idxC_f reach_nil reachP_cons reachQ_t reachQ_f ptrB_dead renB_dead ins_eq
attribute [local simp] n37_1s n37_3s n37_9s n37_11s n37_12s n37_10s n37_8s n37_14s n37_13s n37_7s n37_6s n37_6g n37_5s n37_16s n37_19s n37_23s n37_26s n37_27s n37_25s n37_30s n37_31s n37_29s n37_28s n37_24s n37_22s n37_21s n37_21g n37_20s n37_18s n37_33s n37_34s n37_32s n37_17s n37_15s n37_4s n37_2s n37_0s Try.f37
/-- the rows that the law looks at -/
def winsL (l : List Bool) (k : Nat) : List (List Bool) := (List.range l.length).map (winB l k)
section
variable (l : List Bool) (k : Nat) (h1 : 1 ≤ l.length) (h64 : l.length ≤ 64) (hk : k ≤ 64)
include h1 h64 hk
theorem k37 (h : List Blk) : callH LL 37 [rwV l, iv k] h = some ⟨sl h.length 0 l.length l.length, h ++ [.cells (rowsV (winsL l k)) 1 true true], [], []⟩ := by
  refine callN_none (v := sl 0 0 l.length l.length) (news := [.cells (rowsV (winsL l k)) 1 true true]) rfl (fun _ => rfl) (L_run rfl ?_) (fun blk hb => by
    simp only [List.mem_cons, List.not_mem_nil, or_false] at hb
    rcases hb with rfl; exact noIdB_flat) (by simp [renV_sl, dep, nblt])
  obtain ⟨c, g1, g2, g3⟩ := l37a l k h1 h64 hk (l.length + k) 1 (by omega) (by omega)
  have lp := l37b l k h1 h64 hk c g1 l.length 0 (by omega)
  have e1 : repB l 1 = l := by simp [repB]
  rw [e1] at g3
  rw [show rowsV ((List.range 0).map (winB l k)) = [] from rfl] at lp
  unfold winsL
  generalize rowsV ((List.range l.length).map (winB l k)) = V at *
  generalize repB l c = L at *
  generalize l.length = n at *
  rw [run37 _ _ _ (by simp)]
  unfold rwV st at *
  generalize (⟨(markU L).toArray⟩ : ByteArray) = sL at *
  generalize (⟨(markU l).toArray⟩ : ByteArray) = s at *
  simp (maxSteps := 1000000) (disch := first | omega | decide | assumption | simp [scal]) [o_indexAddrS es_26, ze_26, o_buildSlice es_26 ze_26 (by decide) ba_26_1, ap_26, builtin_append ni_26, siter_ptr, siter_ren, o_rangeT, g3, lp]
end
theorem rowsV_get {es : List (List Bool)} {i : Nat} {w : List Bool} (h : es[i]? = some w) : (rowsV es)[i]? = some (rwV w) := by simp [rowsV, h]
end Go.Proofs.Ytjimphlkhjmaiaa.sw
namespace Go.Proofs.Ytjimphlkhjmaiaa.sw
open Go.GE
set_option linter.unusedVariables false
set_option linter.unusedSimpArgs false
set_option linter.unusedSectionVars false
def D (l : List Bool) (k : Nat) : Prop := ∀ i j, i < l.length → j < l.length → winB l k i = winB l k j → i = j
theorem dif_iff (l : List Bool) (k : Nat) : ∀ (q i : Nat) (acc : List (List Bool)), difW l k q i acc = true ↔ (∀ j, j < q → winB l k (i + j) ∉ acc) ∧ ∀ a b, a < q → b < q → winB l k (i + a) = winB l k (i + b) → a = b := by
  intro q
  induction q with
  | zero => intro i acc; simp only [difW]; exact ⟨fun _ => ⟨fun j h => by omega, fun a b h => by omega⟩, fun _ => trivial⟩
  | succ q ih =>
    intro i acc
    rw [difW]
    by_cases h : winB l k i ∈ acc
    · rw [if_pos h]
      refine ⟨fun h => (by cases h), fun hh => absurd h (hh.1 0 (by omega))⟩
    · rw [if_neg h, ih]
      constructor
      · rintro ⟨g1, g2⟩
        refine ⟨fun j hj => ?_, fun a b ha hb e => ?_⟩
        · cases j with
          | zero => exact h
          | succ j =>
            have := g1 j (by omega)
            rw [show i + 1 + j = i + (j + 1) by omega] at this
            exact fun hc => this (List.mem_append_left _ hc)
        · cases a with
          | zero => cases b with
            | zero => rfl
            | succ b =>
              have := g1 b (by omega)
              rw [show i + 1 + b = i + (b + 1) by omega, ← e] at this
              exact absurd (List.mem_append_right _ (by simp)) this
          | succ a => cases b with
            | zero =>
              have := g1 a (by omega)
              rw [show i + 1 + a = i + (a + 1) by omega, e] at this
              exact absurd (List.mem_append_right _ (by simp)) this
            | succ b =>
              have := g2 a b (by omega) (by omega) (by rw [show i + 1 + a = i + (a + 1) by omega, show i + 1 + b = i + (b + 1) by omega]; exact e)
              omega
      · rintro ⟨g1, g2⟩
        refine ⟨fun j hj hc => ?_, fun a b ha hb e => ?_⟩
        · rcases List.mem_append.1 hc with hc | hc
          · have := g1 (j + 1) (by omega)
            rw [show i + 1 + j = i + (j + 1) by omega] at hc
            exact this hc
          · have := g2 (j + 1) 0 (by omega) (by omega) (by rw [show i + (j + 1) = i + 1 + j by omega]; exact List.mem_singleton.1 hc)
            omega
        · have := g2 (a + 1) (b + 1) (by omega) (by omega) (by rw [show i + (a + 1) = i + 1 + a by omega, show i + (b + 1) = i + 1 + b by omega]; exact e)
          omega
theorem difB_iff {l : List Bool} {k : Nat} : difB l k = true ↔ D l k := by
  rw [difB, dif_iff]
  constructor
  · rintro ⟨_, h⟩ i j hi hj e
    exact h i j hi hj (by rw [Nat.zero_add, Nat.zero_add]; exact e)
  · intro h
    refine ⟨fun j _ => by simp, fun a b ha hb e => h a b ha hb ?_⟩
    rw [Nat.zero_add, Nat.zero_add] at e; exact e
theorem fst_ok (l : List Bool) : ∀ (q k : Nat), match fstD l q k with
    | some j => k ≤ j ∧ j < k + q ∧ difB l j = true ∧ ∀ i, k ≤ i → i < j → difB l i = false
    | none => ∀ i, k ≤ i → i < k + q → difB l i = false := by
  intro q
  induction q with
  | zero => intro k; simp only [fstD]; intro i h1 h2; omega
  | succ q ih =>
    intro k
    simp only [fstD]
    by_cases h : difB l k = true
    · simp only [h, if_true]
      exact ⟨Nat.le_refl _, by omega, trivial, fun i h1 h2 => by omega⟩
    · have hf : difB l k = false := by simpa using h
      simp only [hf, Bool.false_eq_true, if_false]
      have := ih (k + 1)
      cases hd : fstD l q (k + 1) with
      | none =>
        rw [hd] at this
        intro i h1 h2
        by_cases e : i = k
        · subst e; exact hf
        · exact this i (by omega) (by omega)
      | some j =>
        rw [hd] at this
        obtain ⟨g1, g2, g3, g4⟩ := this
        refine ⟨by omega, by omega, g3, fun i h1 h2 => ?_⟩
        by_cases e : i = k
        · subst e; exact hf
        · exact g4 i (by omega) h2
theorem clr_ok (l : List Bool) : (clrV l = (0, 14) ∧ difB l l.length = false) ∨ ∃ j, clrV l = (j, 0) ∧ j ≤ l.length ∧ difB l j = true ∧ ∀ i, i < j → difB l i = false := by
  have := fst_ok l (l.length + 1) 0
  unfold clrV
  cases hd : fstD l (l.length + 1) 0 with
  | none => rw [hd] at this; exact .inl ⟨rfl, this _ (by omega) (by omega)⟩
  | some j => rw [hd] at this; exact .inr ⟨j, rfl, by omega, this.2.2.1, fun i hi => this.2.2.2 i (by omega) hi⟩
end Go.Proofs.Ytjimphlkhjmaiaa.sw
namespace Go.Proofs.Ytjimphlkhjmaiaa.sw
open Go.GE
set_option linter.unusedVariables false
set_option linter.unusedSimpArgs false
set_option linter.unusedSectionVars false
set_option maxRecDepth 100000
set_option maxHeartbeats 4000000
theorem mark_at {l : List Bool} {p : Nat} {b : Bool} (hb : l[p]? = some b) : (⟨(markU l).toArray⟩ : ByteArray)[p]? = some (bitU b) := by
  have hp : p < l.length := (List.getElem?_eq_some_iff.1 hb).1
  have hs : p < (⟨(markU l).toArray⟩ : ByteArray).size := by rw [st_size, mark_len]; exact hp
  rw [getElem?_pos (⟨(markU l).toArray⟩ : ByteArray) p hs]
  congr 1
  show (markU l).toArray[p]'_ = _
  simp [markU, (List.getElem?_eq_some_iff.1 hb).2]
end Go.Proofs.Ytjimphlkhjmaiaa.sw
namespace Go.Proofs.Ytjimphlkhjmaiaa.sw
open Go.GE
set_option linter.unusedVariables false
set_option linter.unusedSimpArgs false
set_option linter.unusedSectionVars false
set_option maxRecDepth 100000
set_option maxHeartbeats 4000000
attribute [local simp] runOps_nil runOps_cons runOpsF_nil runOpsF_cons fstS_some fstF_some opStep_eq want_none oStep_true oStep_false fin_pure fin_read fin_alloc fin_write storeB wrN cellV addWr o_move o_assign o_pick o_alloc o_box o_load o_store o_nilCheck o_bin o_un o_extract o_callV o_callB o_callI callV_f callV_y callV_fc o_makeFunc partsA Instr.fill builtin_len builtin_max2 bin_add bin_sub bin_mul bin_quo bin_rem bin_lss bin_leq bin_gtr bin_geq bin_eql bin_neq un_neg un_not bin_shr bin_shl wrap_u64_id opd opds optAll putO nbeq nblt constOk isC ops sub cl cr co bodyOf thenS_normal thenS_ret thenS_exit thenS_goto afterN_normal afterN_ret afterN_exit afterN_goto condS_true condS_false blockS_normal blockS_ret blockS_exit blockS_goto headS normS normK_eq fixS_nil fixS_cons fix1 fixV emptyB keepO_nil keepO_cons roundC_normal roundC_exit roundC_ret roundC_goto sweep_eq sweepD rnm pickR pickW rootsB ptrT renT ptrFn renFn ptrB_flat ptrB_non renB_flat renB_non plainS_some drawS_some fpsOk disj unord range' dropTo enumT undef wrap_i64_id Value.cells mkCells ptrTo scal cellsAt rdN endS_ret resultsA Option.bind_some tupV finish reachN dep ptrL_eq ptrL renL_eq renL ptrV_bool ptrV_int ptrV_string ptrV_nilFunc ptrV_nilIface ptrV_nilPtr ptrV_ptr ptrV_nilSl ptrV_sl ptrV_iface ptrV_agg ptrV_tuple ptrV_func renV_bool renV_int renV_string renV_nilFunc renV_nilIface renV_nilPtr renV_ptr renV_nilSl renV_sl renV_iface renV_agg renV_tuple renV_func gotoS_goto gotoS_normal gotoS_exit gotoS_ret skip_seq sliceE bnd bndHi intOf optOpd keepT_nil keepT_cons keepC_t keepC_f lk_nil lk_cons lkC_t lkC_f has_nil has_cons hasC_t hasC_f rep_nil rep_cons repC_t repC_f put_eq putC_t putC_f mem_nil mem_cons memC_t memC_f idx_nil idx_cons idxC_t idxC_f reach_nil reachP_cons reachQ_t reachQ_f ptrB_dead renB_dead ins_eq
attribute [local simp] n42_1s n42_4s n42_8s n42_11s n42_12s n42_10s n42_15s n42_17s n42_20s n42_21s n42_19s n42_22s n42_18s n42_16s n42_14s n42_13s n42_9s n42_7s n42_6s n42_6g n42_5s n42_3s n42_24s n42_25s n42_23s n42_2s n42_0s Try.f42 n39_1s n39_4s n39_8s n39_11s n39_12s n39_10s n39_16s n39_18s n39_21s n39_22s n39_20s n39_23s n39_19s n39_17s n39_15s n39_14s n39_24s n39_13s n39_9s n39_7s n39_6s n39_6g n39_5s n39_3s n39_26s n39_27s n39_25s n39_2s n39_0s Try.f39
def skU : Option Bool → UInt8
  | none => 63
  | some b => bitU b
def seeU (s : List (Option Bool)) : List UInt8 := s.map skU
abbrev skV (s : List (Option Bool)) : Value := st (seeU s)
theorem see_len {s : List (Option Bool)} : (seeU s).length = s.length := by simp [seeU]
theorem see_all {l : List Bool} : seeU (l.map some) = markU l := by simp [seeU, markU, skU, Function.comp_def]
theorem dec_see {s : List (Option Bool)} {p : Nat} {x : Option Bool} (hx : s[p]? = some x) : Utf8.decode (⟨(seeU s).toArray⟩ : ByteArray) p = ((skU x).toNat, 1) := by
  have hp : p < s.length := (List.getElem?_eq_some_iff.1 hx).1
  have hs : p < (⟨(seeU s).toArray⟩ : ByteArray).size := by rw [st_size, see_len]; exact hp
  have hv : (⟨(seeU s).toArray⟩ : ByteArray)[p]'hs = skU x := by
    show (seeU s).toArray[p]'_ = _
    simp [seeU, (List.getElem?_eq_some_iff.1 hx).2]
  rw [decode_ascii _ _ hs (by rw [hv]; rcases x with _ | b <;> first | decide | (cases b <;> decide)), hv]
theorem next_see {h : List Blk} {b p : Nat} {s : List (Option Bool)} {x : Option Bool} (hb : h[b]? = some (.siter ⟨(seeU s).toArray⟩ p)) (hx : s[p]? = some x) :
    nextB h b = some ⟨.tuple #[.bool true, iv p, .int .i32 ((skU x).toNat : Int)], h.set b (.siter ⟨(seeU s).toArray⟩ (p + 1)), [b], [b]⟩ := by
  have hp : p < s.length := (List.getElem?_eq_some_iff.1 hx).1
  have hs : p < (⟨(seeU s).toArray⟩ : ByteArray).size := by rw [st_size, see_len]; exact hp
  simp only [nextB, hb, if_pos hs, dec_see hx]
  rfl
theorem end_see {h : List Blk} {b p : Nat} {s : List (Option Bool)} (hb : h[b]? = some (.siter ⟨(seeU s).toArray⟩ p)) (hp : s.length ≤ p) : nextB h b = some ⟨.tuple #[.bool false], h, [b], []⟩ := by
  have hs : ¬ p < (⟨(seeU s).toArray⟩ : ByteArray).size := by rw [st_size, see_len]; omega
  simp only [nextB, hb, if_neg hs]
theorem see_at {s : List (Option Bool)} {p : Nat} {x : Option Bool} (hx : s[p]? = some x) : (⟨(seeU s).toArray⟩ : ByteArray)[p]? = some (skU x) := by
  have hp : p < s.length := (List.getElem?_eq_some_iff.1 hx).1
  have hs : p < (⟨(seeU s).toArray⟩ : ByteArray).size := by rw [st_size, see_len]; exact hp
  rw [getElem?_pos (⟨(seeU s).toArray⟩ : ByteArray) p hs]
  congr 1
  show (seeU s).toArray[p]'_ = _
  simp [seeU, (List.getElem?_eq_some_iff.1 hx).2]
theorem k57q (x : Option Bool) (h : List Blk) : callH LL 57 [st [48, 49, 63], .int .i32 ((skU x).toNat : Int)] h = some ⟨.bool true, h, [], []⟩ := by
  rcases x with _ | x
  · exact callH_none rfl (fun _ => rfl) (L_tab (by kernel_rfl)) fun _ => rfl
  · cases x
    · exact callH_none rfl (fun _ => rfl) (L_tab (by kernel_rfl)) fun _ => rfl
    · exact callH_none rfl (fun _ => rfl) (L_tab (by kernel_rfl)) fun _ => rfl
theorem l42q (s : List (Option Bool)) : ∀ (q p : Nat), p + q = s.length →
    lpB Try.prog LL ⟨42, 16, 0, none⟩ n42_6 n42_7 ⟨[(1, st [48, 49, 63]), (8, pp 0)], [.siter ⟨(seeU s).toArray⟩ p], []⟩ = some (.exit 0, ⟨[], [], []⟩) := by
  intro q
  induction q with
  | zero =>
    intro p hp
    have n1 := @end_see [.siter ⟨(seeU s).toArray⟩ p] 0 p s rfl (by omega)
    generalize (⟨(seeU s).toArray⟩ : ByteArray) = z at *
    rw [lpB_eq]
    simp (maxSteps := 1000000) (disch := first | omega | decide | assumption | simp [scal]) [siter_ptr, siter_ren, o_nextT, n1]
  | succ q ih =>
    intro p hp
    obtain ⟨x, hx⟩ : ∃ x, s[p]? = some x := ⟨s[p]'(by omega), List.getElem?_eq_getElem _⟩
    have n1 := @next_see [.siter ⟨(seeU s).toArray⟩ p] 0 p s x rfl hx
    have n2 := fun h => k57q x h
    have this := ih (p + 1) (by omega)
    simp only [List.set_cons_zero] at n1
    generalize (⟨(seeU s).toArray⟩ : ByteArray) = z at *
    generalize ((skU x).toNat : Int) = r at *
    clear ih
    rw [lpB_eq]
    simp (maxSteps := 1000000) (disch := first | omega | decide | assumption | simp [scal]) [siter_ptr, siter_ren, o_nextT, n1, n2, this]
theorem k42q (s : List (Option Bool)) (h : List Blk) : callH LL 42 [skV s, st [48, 49, 63]] h = some ⟨.bool true, h, [], []⟩ := by
  refine callH_none rfl (fun _ => rfl) (L_run rfl ?_) fun _ => rfl
  have lp := l42q s s.length 0 (by omega)
  rw [run42 _ _ _ (by simp)]
  unfold skV st
  generalize (⟨(seeU s).toArray⟩ : ByteArray) = z at *
  simp (maxSteps := 1000000) (disch := first | omega | decide | assumption | simp [scal]) [siter_ptr, siter_ren, o_rangeT, lp]
abbrev nvs (o : List Nat) : List Value := o.map fun (i : Nat) => iv i
theorem nvs_get {o : List Nat} {j i : Nat} (h : o[j]? = some i) : (nvs o)[j]? = some (iv i) := by simp [h]
theorem l39 (i : Nat) (o : List Nat) (m : Nat) (hm : o.length = m) (m64 : m ≤ 64) : ∀ (q j : Nat), j + q = m → 
    lpB Try.prog LL ⟨39, 17, 1, none⟩ n39_6 n39_7 ⟨[(1, iv i), (7, sl 0 0 m m), (8, iv m), (9, iv j)], [.cells (nvs o) 1 true true], []⟩ =
      if i ∈ o.drop j then some (.ret, ⟨[(4, .bool true)], [.cells (nvs o) 1 true true], []⟩) else some (.exit 0, ⟨[], [.cells (nvs o) 1 true true], []⟩) := by
  intro q
  induction q with
  | zero =>
    intro j hj
    have e1 : ¬ j < m := by omega
    rw [List.drop_eq_nil_of_le (by omega), if_neg (by simp)]
    generalize nvs o = V at *
    rw [lpB_eq]
    simp (maxSteps := 1000000) (disch := first | omega | decide | assumption | simp [scal]) [lenA_sl lk_34, o_indexAddrS es_34, loadA_eq ia_3, e1]
  | succ q ih =>
    intro j hj
    have e1 : j < m := by omega
    obtain ⟨x, hx⟩ : ∃ x, o[j]? = some x := ⟨o[j]'(by omega), List.getElem?_eq_getElem _⟩
    have g1 := nvs_get hx
    have e3 : j < (nvs o).length := by simp; omega
    have g2 : (nvs o)[j]'e3 = iv x := by have := List.getElem?_eq_getElem e3; rw [g1] at this; exact (Option.some.inj this).symm
    have hd : o.drop j = x :: o.drop (j + 1) := by
      rw [List.drop_eq_getElem_cons (by omega)]
      congr 1
      exact (List.getElem?_eq_some_iff.1 hx).2
    have this := ih (j + 1) (by omega)
    simp only [cast1] at this
    rw [hd]
    clear ih
    by_cases h : x = i
    · subst h
      rw [if_pos (by simp)]
      clear this
      generalize nvs o = V at *
      rw [lpB_eq]
      simp (maxSteps := 1000000) (disch := first | omega | decide | assumption | simp [scal]) [lenA_sl lk_34, o_indexAddrS es_34, loadA_eq ia_3, e1, e3, g1, g2]
    · have h' : ¬ (x : Int) = i := by omega
      have hiff : (i ∈ x :: o.drop (j + 1)) = (i ∈ o.drop (j + 1)) := by
        simp only [List.mem_cons, eq_iff_iff]
        exact ⟨fun e => e.resolve_left (fun e => h e.symm), .inr⟩
      simp only [hiff]
      rw [← this]
      clear this hd hx
      generalize nvs o = V at *
      have this := Eq.refl (lpB Try.prog LL ⟨39, 17, 1, none⟩ n39_6 n39_7 ⟨[(1, iv i), (7, sl 0 0 m m), (8, iv m), (9, .int .i64 ((j : Int) + 1))], [.cells V 1 true true], []⟩)
      conv => lhs; rw [lpB_eq]
      simp (maxSteps := 1000000) (disch := first | omega | decide | assumption | simp [scal]) [lenA_sl lk_34, o_indexAddrS es_34, loadA_eq ia_3, e1, e3, g1, g2, h, h']
theorem k39 (i : Nat) (o : List Nat) (m : Nat) (hm : o.length = m) (m64 : m ≤ 64) {h : List Blk} {b : Nat} (hb : h[b]? = some (.cells (nvs o) 1 true true)) : callH LL 39 [sl b 0 m m, iv i] h = some ⟨.bool (decide (i ∈ o)), h, [b], []⟩ := by
  refine callH_1 rfl hb noIdB_flat (args' := [sl 0 0 m m, iv i]) (by simp [renV_sl, renV_int, dep, optAll, idx, nbeq]) (L_run rfl ?_) fun _ => rfl
  have lp := l39 i o m hm m64 m 0 (by omega)
  rw [List.drop_zero] at lp
  simp only [Int.natCast_zero] at lp
  rw [run39 _ _ _ (by simp)]
  by_cases hd : i ∈ o
  · rw [if_pos hd] at lp
    rw [decide_eq_true hd]
    generalize nvs o = V at *
    simp (maxSteps := 1000000) (disch := first | omega | decide | assumption | simp [scal]) [lenA_sl lk_34, o_indexAddrS es_34, loadA_eq ia_3, lp]
  · rw [if_neg hd] at lp
    rw [decide_eq_false hd]
    generalize nvs o = V at *
    simp (maxSteps := 1000000) (disch := first | omega | decide | assumption | simp [scal]) [lenA_sl lk_34, o_indexAddrS es_34, loadA_eq ia_3, lp]
end Go.Proofs.Ytjimphlkhjmaiaa.sw
namespace Go.Proofs.Ytjimphlkhjmaiaa.sw
open Go.GE
set_option linter.unusedVariables false
set_option linter.unusedSimpArgs false
set_option linter.unusedSectionVars false
set_option maxRecDepth 100000
set_option maxHeartbeats 4000000
attribute [local simp] runOps_nil runOps_cons runOpsF_nil runOpsF_cons fstS_some fstF_some opStep_eq want_none oStep_true oStep_false fin_pure fin_read fin_alloc fin_write storeB wrN cellV addWr o_move o_assign o_pick o_alloc o_box o_load o_store o_nilCheck o_bin o_un o_extract o_callV o_callB o_callI callV_f callV_y callV_fc o_makeFunc partsA Instr.fill builtin_len builtin_max2 bin_add bin_sub bin_mul bin_quo bin_rem bin_lss bin_leq bin_gtr bin_geq bin_eql bin_neq un_neg un_not bin_shr bin_shl wrap_u64_id opd opds optAll putO nbeq nblt constOk isC ops sub cl cr co bodyOf thenS_normal thenS_ret thenS_exit thenS_goto afterN_normal afterN_ret afterN_exit afterN_goto condS_true condS_false blockS_normal blockS_ret blockS_exit blockS_goto headS normS normK_eq fixS_nil fixS_cons fix1 fixV emptyB keepO_nil keepO_cons roundC_normal roundC_exit roundC_ret roundC_goto sweep_eq sweepD rnm pickR pickW rootsB ptrT renT ptrFn renFn ptrB_flat ptrB_non renB_flat renB_non plainS_some drawS_some fpsOk disj unord range' dropTo enumT undef wrap_i64_id Value.cells mkCells ptrTo scal cellsAt rdN endS_ret resultsA Option.bind_some tupV finish reachN dep ptrL_eq ptrL renL_eq renL ptrV_bool ptrV_int ptrV_string ptrV_nilFunc ptrV_nilIface ptrV_nilPtr ptrV_ptr ptrV_nilSl ptrV_sl ptrV_iface ptrV_agg ptrV_tuple ptrV_func renV_bool renV_int renV_string renV_nilFunc renV_nilIface renV_nilPtr renV_ptr renV_nilSl renV_sl renV_iface renV_agg renV_tuple renV_func gotoS_goto gotoS_normal gotoS_exit gotoS_ret skip_seq sliceE bnd bndHi intOf optOpd keepT_nil keepT_cons keepC_t keepC_f lk_nil lk_cons lkC_t lkC_f has_nil has_cons hasC_t hasC_f rep_nil rep_cons repC_t repC_f put_eq putC_t putC_f mem_nil mem_cons memC_t memC_f idx_nil idx_cons idxC_t idxC_f reach_nil reachP_cons reachQ_t reachQ_f ptrB_dead renB_dead ins_eq
attribute [local simp] n24_1s n24_4s n24_8s n24_11s n24_12s n24_10s n24_14s n24_17s n24_18s n24_16s n24_20s n24_23s n24_24s n24_22s n24_26s n24_29s n24_30s n24_28s n24_31s n24_27s n24_25s n24_21s n24_19s n24_15s n24_13s n24_9s n24_7s n24_6s n24_33s n24_35s n24_38s n24_42s n24_43s n24_41s n24_47s n24_51s n24_54s n24_55s n24_53s n24_58s n24_60s n24_62s n24_63s n24_61s n24_59s n24_57s n24_56s n24_52s n24_50s n24_49s n24_49g n24_48s n24_46s n24_64s n24_45s n24_44s n24_39s n24_37s n24_66s n24_67s n24_65s n24_36s n24_34s n24_32s n24_5s n24_3s n24_2s n24_2j0 n24_2i0 n24_0s Try.f24
def okM (x : Option Bool) (b : Bool) : Bool := match x with
  | none => true
  | some a => decide (a = b)
/-- does a window fit from a mark on? -/
def fitR (s : List (Option Bool)) (w : List Bool) : Nat → Nat → Bool
  | 0, _ => true
  | q + 1, p => (match s[p]?, w[p]? with | some x, some b => okM x b | _, _ => false) && fitR s w q (p + 1)
abbrev skB (s : List (Option Bool)) : Blk := .cells [skV s] 1 true true
abbrev oN : Blk := .cells [.slice none 0 0] 1 false true
abbrev oC (b m : Nat) : Blk := .cells [sl b 0 m m] 1 false true
abbrev nB (o : List Nat) : Blk := .cells (nvs o) 1 true true
noncomputable def lp24 (a b : Nat) : ALoop := ⟨.ready, none, 24, [(3, pp a), (7, pp b)], 57, #[32, 33], n24_41, n24_44⟩
theorem oC_ptr {b m : Nat} : ptrB (oC b m) = [b] := rfl
theorem oC_ren {g : Nat → Option Nat} {b m : Nat} : renB g (oC b m) = (g b).map fun b' => oC b' m := by
  show (optAll (renV g dep) [sl b 0 m m]).map _ = _
  simp only [optAll, dep, renV_sl]
  cases g b <;> rfl
theorem oN_ptr : ptrB oN = [] := rfl
theorem oN_ren {g : Nat → Option Nat} : renB g oN = some oN := rfl
theorem l24d (i : Nat) (s : List (Option Bool)) (w : List Bool) (o : List Nat) (m : Nat) (hs : s.length = w.length) : ∀ (q p : Nat), p + q = w.length →
    lpB Try.prog LL ⟨24, 57, 4, some 0⟩ n24_49 n24_50 ⟨[(3, pp 1), (7, pp 2), (8, iv i), (9, rwV w), (35, pp 4)], [.loop { lp24 1 2 with state := .busy }, skB s, oC 3 m, nB o, .siter ⟨(markU w).toArray⟩ p], [0]⟩ =
      if fitR s w q p = true then some (.exit 3, ⟨[(7, pp 2), (8, iv i)], [.loop { lp24 1 2 with state := .busy }, skB s, oC 3 m, nB o], [0]⟩) else some (.exit 2, ⟨[], [.loop { lp24 1 2 with state := .busy }, skB s, oC 3 m, nB o], [0]⟩) := by
  intro q
  induction q with
  | zero =>
    intro p hp
    have n1 := @next_end [.loop { lp24 1 2 with state := .busy }, skB s, oC 3 m, nB o, .siter ⟨(markU w).toArray⟩ p] 4 p w rfl (by omega)
    simp only [fitR, if_true]
    simp only [lp24] at n1 ⊢
    unfold rwV st at *
    generalize (⟨(markU w).toArray⟩ : ByteArray) = z at *
    generalize (⟨(seeU s).toArray⟩ : ByteArray) = zs at *
    rw [lpB_eq]
    simp (maxSteps := 1000000) (disch := first | omega | decide | assumption | simp [scal]) [loadA_eq ia_9, za_34, loadA_eq ia_34, o_indexAddrS es_34, ze_34, o_buildSlice es_34 ze_34 (by decide) ba_34_1, ap_34, builtin_append ni_34, sz_34, want_some q24_60g4, siter_ptr, siter_ren, o_nextT, n1, loop_ptr, loop_ren, oC_ptr, oC_ren, oN_ptr, oN_ren]
  | succ q ih =>
    intro p hp
    have hpl : p < w.length := by omega
    have n1 := @next_row [.loop { lp24 1 2 with state := .busy }, skB s, oC 3 m, nB o, .siter ⟨(markU w).toArray⟩ p] 4 p w rfl hpl
    obtain ⟨b, hb⟩ : ∃ b, w[p]? = some b := ⟨w[p]'hpl, List.getElem?_eq_getElem _⟩
    obtain ⟨x, hx⟩ : ∃ x, s[p]? = some x := ⟨s[p]'(by omega), List.getElem?_eq_getElem _⟩
    have s1 := mark_at hb
    have s2 := see_at hx
    have this := ih (p + 1) (by omega)
    simp only [fitR, hb, hx]
    have e0 : (0 : Int) ≤ (p : Int) := by omega
    have key : okM x b = true → lpB Try.prog LL ⟨24, 57, 4, some 0⟩ n24_49 n24_50 ⟨[(3, pp 1), (7, pp 2), (8, iv i), (9, rwV w), (35, pp 4)], [.loop { lp24 1 2 with state := .busy }, skB s, oC 3 m, nB o, .siter ⟨(markU w).toArray⟩ p], [0]⟩ =
        lpB Try.prog LL ⟨24, 57, 4, some 0⟩ n24_49 n24_50 ⟨[(3, pp 1), (7, pp 2), (8, iv i), (9, rwV w), (35, pp 4)], [.loop { lp24 1 2 with state := .busy }, skB s, oC 3 m, nB o, .siter ⟨(markU w).toArray⟩ (p + 1)], [0]⟩ := by
      intro ho
      clear this ih
      simp only [lp24, List.set_cons_succ, List.set_cons_zero] at n1 ⊢
      unfold skB rwV skV st at *
      generalize (⟨(markU w).toArray⟩ : ByteArray) = z at *
      generalize (⟨(seeU s).toArray⟩ : ByteArray) = zs at *
      generalize ((cond (w.getD p false) 49 48 : Nat) : Int) = rr at *
      conv => lhs; rw [lpB_eq]
      rcases x with _ | x
      · have q1 : ((skU none).toNat : Int) = 63 := rfl
        rw [show skU none = 63 from rfl] at s2
        have q2 : (63 : UInt8).toNat = 63 := rfl
        simp (maxSteps := 1000000) (disch := first | omega | decide | assumption | simp [scal]) [loadA_eq ia_9, za_34, loadA_eq ia_34, o_indexAddrS es_34, ze_34, o_buildSlice es_34 ze_34 (by decide) ba_34_1, ap_34, builtin_append ni_34, sz_34, want_some q24_60g4, siter_ptr, siter_ren, o_nextT, n1, loop_ptr, loop_ren, oC_ptr, oC_ren, oN_ptr, oN_ren, o_indexT, s1, s2, e0, q2]
      · have hxb : x = b := by simpa [okM] using ho
        subst hxb
        rw [show skU (some x) = bitU x from rfl] at s2
        obtain ⟨u, hu⟩ : ∃ u : Nat, (bitU x).toNat = u ∧ u ≠ 63 := ⟨_, rfl, by cases x <;> decide⟩
        have u1 : ¬ u = 63 := hu.2
        have u2 : ¬ ((u : Int) = 63) := by omega
        have hu := hu.1
        simp (maxSteps := 1000000) (disch := first | omega | decide | assumption | simp [scal]) [loadA_eq ia_9, za_34, loadA_eq ia_34, o_indexAddrS es_34, ze_34, o_buildSlice es_34 ze_34 (by decide) ba_34_1, ap_34, builtin_append ni_34, sz_34, want_some q24_60g4, siter_ptr, siter_ren, o_nextT, n1, loop_ptr, loop_ren, oC_ptr, oC_ren, oN_ptr, oN_ren, o_indexT, s1, s2, e0, hu, u1, u2]
    rcases Bool.eq_false_or_eq_true (okM x b) with ho | ho
    · rw [key ho, ho, this]
      rfl
    · clear this ih key
      simp only [ho, Bool.false_and, Bool.false_eq_true, if_false]
      simp only [lp24, List.set_cons_succ, List.set_cons_zero] at n1 ⊢
      unfold skB rwV skV st at *
      generalize (⟨(markU w).toArray⟩ : ByteArray) = z at *
      generalize (⟨(seeU s).toArray⟩ : ByteArray) = zs at *
      generalize ((cond (w.getD p false) 49 48 : Nat) : Int) = rr at *
      rw [lpB_eq]
      rcases x with _ | x
      · simp [okM] at ho
      · have hxb : x ≠ b := by simpa [okM] using ho
        rw [show skU (some x) = bitU x from rfl] at s2
        obtain ⟨u, hu⟩ : ∃ u : Nat, (bitU x).toNat = u ∧ u ≠ 63 := ⟨_, rfl, by cases x <;> decide⟩
        obtain ⟨v, hv⟩ : ∃ v : Nat, (bitU b).toNat = v ∧ u ≠ v := ⟨_, rfl, by rw [← hu.1]; cases x <;> cases b <;> first | decide | exact absurd rfl hxb⟩
        have u1 : ¬ u = 63 := hu.2
        have u2 : ¬ ((u : Int) = 63) := by omega
        have u3 : ¬ u = v := hv.2
        have u4 : ¬ ((u : Int) = v) := by omega
        have hu := hu.1
        have hv := hv.1
        simp (maxSteps := 1000000) (disch := first | omega | decide | assumption | simp [scal]) [loadA_eq ia_9, za_34, loadA_eq ia_34, o_indexAddrS es_34, ze_34, o_buildSlice es_34 ze_34 (by decide) ba_34_1, ap_34, builtin_append ni_34, sz_34, want_some q24_60g4, siter_ptr, siter_ren, o_nextT, n1, loop_ptr, loop_ren, oC_ptr, oC_ren, oN_ptr, oN_ren, o_indexT, s1, s2, e0, hu, hv, u1, u2, u3, u4]
end Go.Proofs.Ytjimphlkhjmaiaa.sw
namespace Go.Proofs.Ytjimphlkhjmaiaa.sw
open Go.GE
set_option linter.unusedVariables false
set_option linter.unusedSimpArgs false
set_option linter.unusedSectionVars false
set_option maxRecDepth 100000
set_option maxHeartbeats 1000000
attribute [local simp] runOps_nil runOps_cons runOpsF_nil runOpsF_cons fstS_some fstF_some opStep_eq want_none oStep_true oStep_false fin_pure fin_read fin_alloc fin_write storeB wrN cellV addWr o_move o_assign o_pick o_alloc o_box o_load o_store o_nilCheck o_bin o_un o_extract o_callV o_callB o_callI callV_f callV_y callV_fc o_makeFunc partsA Instr.fill builtin_len builtin_max2 bin_add bin_sub bin_mul bin_quo bin_rem bin_lss bin_leq bin_gtr bin_geq bin_eql bin_neq un_neg un_not bin_shr bin_shl wrap_u64_id opd opds optAll putO nbeq nblt constOk isC ops sub cl cr co bodyOf thenS_normal thenS_ret thenS_exit thenS_goto afterN_normal afterN_ret afterN_exit afterN_goto condS_true condS_false blockS_normal blockS_ret blockS_exit blockS_goto headS normS normK_eq fixS_nil fixS_cons fix1 fixV emptyB keepO_nil keepO_cons roundC_normal roundC_exit roundC_ret roundC_goto sweep_eq sweepD rnm pickR pickW rootsB ptrT renT ptrFn renFn ptrB_flat ptrB_non renB_flat renB_non plainS_some drawS_some fpsOk disj unord range' dropTo enumT undef wrap_i64_id Value.cells mkCells ptrTo scal cellsAt rdN endS_ret resultsA Option.bind_some tupV finish reachN dep ptrL_eq ptrL renL_eq renL ptrV_bool ptrV_int ptrV_string ptrV_nilFunc ptrV_nilIface ptrV_nilPtr ptrV_ptr ptrV_nilSl ptrV_sl ptrV_iface ptrV_agg ptrV_tuple ptrV_func renV_bool renV_int renV_string renV_nilFunc renV_nilIface renV_nilPtr renV_ptr renV_nilSl renV_sl renV_iface renV_agg renV_tuple renV_func gotoS_goto gotoS_normal gotoS_exit gotoS_ret skip_seq sliceE bnd bndHi intOf optOpd keepT_nil keepT_cons keepC_t keepC_f lk_nil lk_cons lkC_t lkC_f has_nil has_cons hasC_t hasC_f rep_nil rep_cons repC_t repC_f put_eq putC_t putC_f mem_nil mem_cons memC_t memC_f idx_nil idx_cons idxC_t idxC_f reach_nil reachP_cons reachQ_t reachQ_f ptrB_dead renB_dead ins_eq
attribute [local simp] n24_1s n24_4s n24_8s n24_11s n24_12s n24_10s n24_14s n24_17s n24_18s n24_16s n24_20s n24_23s n24_24s n24_22s n24_26s n24_29s n24_30s n24_28s n24_31s n24_27s n24_25s n24_21s n24_19s n24_15s n24_13s n24_9s n24_7s n24_6s n24_33s n24_35s n24_38s n24_42s n24_43s n24_41s n24_47s n24_51s n24_54s n24_55s n24_53s n24_58s n24_60s n24_62s n24_63s n24_61s n24_59s n24_57s n24_56s n24_52s n24_50s n24_49s n24_49g n24_48s n24_46s n24_64s n24_45s n24_44s n24_39s n24_37s n24_66s n24_67s n24_65s n24_36s n24_34s n24_32s n24_5s n24_3s n24_2s n24_2j0 n24_2i0 n24_0s Try.f24
theorem nvs_snoc {o : List Nat} {i : Nat} : nvs o ++ [iv i] = nvs (o ++ [i]) := by simp
theorem renN {g : Nat → Option Nat} {o : List Nat} : renB g (nB o) = some (nB o) := rfl
theorem r24d (i : Nat) (s : List (Option Bool)) (w : List Bool) (o : List Nat) (m : Nat) (hs : s.length = w.length) (hm : o.length = m) (m64 : m ≤ 64) : LL.rnd 0 [iv i, rwV w] [.loop (lp24 1 2), skB s, oC 3 m, nB o] =
    if fitR s w w.length 0 = true then some ⟨.bool true, [nB (o ++ [i])], [(0, .loop (lp24 1 2)), (3, .dead), (2, oC 4 (m + 1))]⟩ else some ⟨.bool true, [], [(0, .loop (lp24 1 2))]⟩ := by
  rw [show LL = L Try.prog (wk.wtab.keep kpT) from rfl, L_rnd_eq]
  have e1 : codeB Try.prog LL ⟨24, 57, 4, some 0⟩ n24_41 ⟨[(33, rwV w), (32, iv i), (3, pp 1), (7, pp 2)], [.loop (lp24 1 2), skB s, oC 3 m, nB o], []⟩ =
      some (.normal, ⟨[(9, rwV w), (8, iv i), (33, rwV w), (32, iv i), (3, pp 1), (7, pp 2)], [.loop (lp24 1 2), skB s, oC 3 m, nB o], []⟩) := by
    simp (maxSteps := 1000000) (disch := first | omega | decide | assumption | simp [scal]) [loadA_eq ia_9, za_34, loadA_eq ia_34, o_indexAddrS es_34, ze_34, o_buildSlice es_34 ze_34 (by decide) ba_34_1, ap_34, builtin_append ni_34, sz_34, want_some q24_60g4]
  have h4 : putAll (lp24 1 2).σ (lp24 1 2).params.toList [iv i, rwV w] = some [(33, rwV w), (32, iv i), (3, pp 1), (7, pp 2)] := rfl
  have lp := l24d i s w o m hs w.length 0 (by omega)
  rcases Bool.eq_false_or_eq_true (fitR s w w.length 0) with hf | hf
  · rw [if_pos hf] at lp ⊢
    have c1 := fun h b c rd => app_list (h := h) (b := b) (c := c) (k := 1) (by' := 8) (l := m) (cs := nvs o) (new := [iv i]) (rd := rd) (by simp [hm]) (by omega) (by omega) rfl
    rw [nvs_snoc] at c1
    have e2 : codeB Try.prog LL ⟨24, 57, 4, some 0⟩ n24_44 ⟨[(9, rwV w), (8, iv i), (33, rwV w), (32, iv i), (3, pp 1), (7, pp 2)], [.loop { lp24 1 2 with state := .busy }, skB s, oC 3 m, nB o], [0]⟩ =
        some (.normal, ⟨[(55, sl 5 0 (m + 1) (m + 1)), (54, sl 4 0 1 1), (53, iv i), (52, sl 3 0 m m), (7, pp 2), (8, iv i)], [.loop { lp24 1 2 with state := .busy }, skB s, oC 5 (m + 1), .dead, nB [i], nB (o ++ [i])], [0, 3, 2]⟩) := by
      clear e1 hf h4
      simp only [lp24] at lp ⊢
      unfold rwV st at *
      generalize (⟨(markU w).toArray⟩ : ByteArray) = z at *
      generalize (⟨(seeU s).toArray⟩ : ByteArray) = zs at *
      simp (maxSteps := 1000000) (disch := first | omega | decide | assumption | simp [scal]) [loadA_eq ia_9, za_34, loadA_eq ia_34, o_indexAddrS es_34, ze_34, o_buildSlice es_34 ze_34 (by decide) ba_34_1, ap_34, builtin_append ni_34, sz_34, want_some q24_60g4, siter_ptr, siter_ren, o_rangeT, loop_ptr, loop_ren, oC_ptr, oC_ren, oN_ptr, oN_ren, lp, ins, append_some ap_34, srcCells, c1]
    rw [rnd_step (h := [.loop (lp24 1 2), skB s, oC 3 m, nB o]) (l := 0) (args := [iv i, rwV w]) (lp := lp24 1 2) (l1 := lp24 1 2) (l2 := { lp24 1 2 with state := .busy }) rfl rfl rfl h4 rfl e1 rfl rfl e2 rfl]
    clear e1 e2 lp hf
    simp (maxSteps := 1000000) (disch := first | omega | decide | assumption | simp [scal]) [ins, lp24, loop_ptr, loop_ren, oC_ptr, oC_ren, oN_ptr, oN_ren, ptrB_dead, renB_dead]
  · rw [if_neg (by simp [hf])] at lp ⊢
    have e2 : codeB Try.prog LL ⟨24, 57, 4, some 0⟩ n24_44 ⟨[(9, rwV w), (8, iv i), (33, rwV w), (32, iv i), (3, pp 1), (7, pp 2)], [.loop { lp24 1 2 with state := .busy }, skB s, oC 3 m, nB o], [0]⟩ =
        some (.normal, ⟨[], [.loop { lp24 1 2 with state := .busy }, skB s, oC 3 m, nB o], [0]⟩) := by
      clear e1 hf h4
      simp only [lp24] at lp ⊢
      unfold rwV st at *
      generalize (⟨(markU w).toArray⟩ : ByteArray) = z at *
      generalize (⟨(seeU s).toArray⟩ : ByteArray) = zs at *
      simp (maxSteps := 1000000) (disch := first | omega | decide | assumption | simp [scal]) [loadA_eq ia_9, za_34, loadA_eq ia_34, o_indexAddrS es_34, ze_34, o_buildSlice es_34 ze_34 (by decide) ba_34_1, ap_34, builtin_append ni_34, sz_34, want_some q24_60g4, siter_ptr, siter_ren, o_rangeT, loop_ptr, loop_ren, oC_ptr, oC_ren, oN_ptr, oN_ren, lp, ins]
    rw [rnd_step (h := [.loop (lp24 1 2), skB s, oC 3 m, nB o]) (l := 0) (args := [iv i, rwV w]) (lp := lp24 1 2) (l1 := lp24 1 2) (l2 := { lp24 1 2 with state := .busy }) rfl rfl rfl h4 rfl e1 rfl rfl e2 rfl]
    clear e1 e2 lp hf
    simp (maxSteps := 1000000) (disch := first | omega | decide | assumption | simp [scal]) [ins, lp24, loop_ptr, loop_ren, oC_ptr, oC_ren, oN_ptr, oN_ren, ptrB_dead, renB_dead]
end Go.Proofs.Ytjimphlkhjmaiaa.sw
namespace Go.Proofs.Ytjimphlkhjmaiaa.sw
open Go.GE
set_option linter.unusedVariables false
set_option linter.unusedSimpArgs false
set_option linter.unusedSectionVars false
set_option maxRecDepth 100000
set_option maxHeartbeats 1000000
attribute [local simp] runOps_nil runOps_cons runOpsF_nil runOpsF_cons fstS_some fstF_some opStep_eq want_none oStep_true oStep_false fin_pure fin_read fin_alloc fin_write storeB wrN cellV addWr o_move o_assign o_pick o_alloc o_box o_load o_store o_nilCheck o_bin o_un o_extract o_callV o_callB o_callI callV_f callV_y callV_fc o_makeFunc partsA Instr.fill builtin_len builtin_max2 bin_add bin_sub bin_mul bin_quo bin_rem bin_lss bin_leq bin_gtr bin_geq bin_eql bin_neq un_neg un_not bin_shr bin_shl wrap_u64_id opd opds optAll putO nbeq nblt constOk isC ops sub cl cr co bodyOf thenS_normal thenS_ret thenS_exit thenS_goto afterN_normal afterN_ret afterN_exit afterN_goto condS_true condS_false blockS_normal blockS_ret blockS_exit blockS_goto headS normS normK_eq fixS_nil fixS_cons fix1 fixV emptyB keepO_nil keepO_cons roundC_normal roundC_exit roundC_ret roundC_goto sweep_eq sweepD rnm pickR pickW rootsB ptrT renT ptrFn renFn ptrB_flat ptrB_non renB_flat renB_non plainS_some drawS_some fpsOk disj unord range' dropTo enumT undef wrap_i64_id Value.cells mkCells ptrTo scal cellsAt rdN endS_ret resultsA Option.bind_some tupV finish reachN dep ptrL_eq ptrL renL_eq renL ptrV_bool ptrV_int ptrV_string ptrV_nilFunc ptrV_nilIface ptrV_nilPtr ptrV_ptr ptrV_nilSl ptrV_sl ptrV_iface ptrV_agg ptrV_tuple ptrV_func renV_bool renV_int renV_string renV_nilFunc renV_nilIface renV_nilPtr renV_ptr renV_nilSl renV_sl renV_iface renV_agg renV_tuple renV_func gotoS_goto gotoS_normal gotoS_exit gotoS_ret skip_seq sliceE bnd bndHi intOf optOpd keepT_nil keepT_cons keepC_t keepC_f lk_nil lk_cons lkC_t lkC_f has_nil has_cons hasC_t hasC_f rep_nil rep_cons repC_t repC_f put_eq putC_t putC_f mem_nil mem_cons memC_t memC_f idx_nil idx_cons idxC_t idxC_f reach_nil reachP_cons reachQ_t reachQ_f ptrB_dead renB_dead ins_eq
attribute [local simp] n55_1s n55_3s n55_7s n55_10s n55_11s n55_9s n55_14s n55_16s n55_18s n55_19s n55_17s n55_15s n55_13s n55_12s n55_8s n55_6s n55_5s n55_5g n55_4s n55_2s n55_0s Try.f55
theorem y24e (i : Nat) (s : List (Option Bool)) (w : List Bool) (hs : s.length = w.length) {b1 b2 b3 : Blk} : yieldH LL 0 [iv i, rwV w] [.loop (lp24 1 2), skB s, oC 3 0, nB [], b1, b2, b3] =
    if fitR s w w.length 0 = true then some ⟨.bool true, [.loop (lp24 1 2), skB s, oC 7 1, .dead, b1, b2, b3, nB [i]], [0, 1, 2, 3], [0, 3, 2]⟩ else some ⟨.bool true, [.loop (lp24 1 2), skB s, oC 3 0, nB [], b1, b2, b3], [0, 1, 2, 3], [0]⟩ := by
  have e := r24d i s w [] 0 hs rfl (by omega)
  have hm : ∀ q : Nat, 20 < q → reach [.loop (lp24 1 2), skB s, oC 3 0, nB [], b1, b2, b3] 0 q [0] [] = [0, 1, 2, 3] := by
    intro q hq
    obtain ⟨q, rfl⟩ : ∃ j, q = j + 20 := ⟨q - 20, by omega⟩
    simp [reach_cons, reachC_t, reachC_f, reach_nil, rootsB, GE.mem, nblt, nbeq, loop_ptr, oC_ptr, ptrB_flat, lp24, ptrT, ptrV_ptr, ptrV_sl, dep]
  unfold yieldH
  have hp : 0 :: ([iv i, rwV w] : List Value).flatMap (ptrV dep) = [0] := rfl
  have hr : ∀ g, optAll (renV g dep) [iv i, rwV w] = some [iv i, rwV w] := fun _ => rfl
  simp only [hp, hm reachN (by decide), hr]
  clear hp hr hm hs
  rcases Bool.eq_false_or_eq_true (fitR s w w.length 0) with h | h
  · rw [if_pos h] at e ⊢
    clear h
    simp only [lp24, List.nil_append, Nat.zero_add] at e ⊢
    unfold nB at *
    generalize nvs [] = V at *
    simp [optAll, loop_ren, oN_ren, oC_ren, renN, renB_flat, renT, renV_ptr, renV_sl, dep, idx, nbeq, e, mergeB, renV_bool, nblt, renB_dead]
  · rw [if_neg (by simp [h])] at e ⊢
    clear h
    simp only [lp24] at e ⊢
    unfold nB at *
    generalize nvs [] = V at *
    simp [optAll, loop_ren, oC_ren, renB_flat, renT, renV_ptr, renV_sl, dep, idx, nbeq, e, mergeB, renV_bool, nblt]
theorem y24d (i : Nat) (s : List (Option Bool)) (w : List Bool) (o : List Nat) (m : Nat) (hs : s.length = w.length) (hm : o.length = m) (m64 : m ≤ 64) {b1 b2 b3 : Blk} : yieldH LL 0 [iv i, rwV w] [.loop (lp24 1 2), skB s, oC 7 m, .dead, b1, b2, b3, nB o] =
    if fitR s w w.length 0 = true then some ⟨.bool true, [.loop (lp24 1 2), skB s, oC 8 (m + 1), .dead, b1, b2, b3, .dead, nB (o ++ [i])], [0, 1, 2, 7], [0, 7, 2]⟩ else some ⟨.bool true, [.loop (lp24 1 2), skB s, oC 7 m, .dead, b1, b2, b3, nB o], [0, 1, 2, 7], [0]⟩ := by
  have e := r24d i s w o m hs hm m64
  have hm : ∀ q : Nat, 20 < q → reach [.loop (lp24 1 2), skB s, oC 7 m, .dead, b1, b2, b3, nB o] 0 q [0] [] = [0, 1, 2, 7] := by
    intro q hq
    obtain ⟨q, rfl⟩ : ∃ j, q = j + 20 := ⟨q - 20, by omega⟩
    simp [reach_cons, reachC_t, reachC_f, reach_nil, rootsB, GE.mem, nblt, nbeq, loop_ptr, oC_ptr, ptrB_flat, lp24, ptrT, ptrV_ptr, ptrV_sl, dep]
  unfold yieldH
  have hp : 0 :: ([iv i, rwV w] : List Value).flatMap (ptrV dep) = [0] := rfl
  have hr : ∀ g, optAll (renV g dep) [iv i, rwV w] = some [iv i, rwV w] := fun _ => rfl
  simp only [hp, hm reachN (by decide), hr]
  clear hp hr hm hs
  rcases Bool.eq_false_or_eq_true (fitR s w w.length 0) with h | h
  · rw [if_pos h] at e ⊢
    clear h
    simp only [lp24, List.nil_append, Nat.zero_add] at e ⊢
    simp [optAll, loop_ren, oN_ren, oC_ren, renN, renB_flat, renT, renV_ptr, renV_sl, dep, idx, nbeq, e, mergeB, renV_bool, nblt, renB_dead]
  · rw [if_neg (by simp [h])] at e ⊢
    clear h
    simp only [lp24] at e ⊢
    simp [optAll, loop_ren, oC_ren, renB_flat, renT, renV_ptr, renV_sl, dep, idx, nbeq, e, mergeB, renV_bool, nblt]
/-- does what is seen fit at an index? -/
def fitW (l : List Bool) (s : List (Option Bool)) (p : Nat) : Bool := fitR s (winB l s.length p) (winB l s.length p).length 0
/-- the indices from one on at which it fits, behind some others -/
def outW (l : List Bool) (s : List (Option Bool)) : Nat → Nat → List Nat → List Nat
  | 0, _, o => o
  | q + 1, p, o => if fitW l s p = true then outW l s q (p + 1) (o ++ [p]) else outW l s q (p + 1) o
section
variable (l : List Bool) (s : List (Option Bool)) (k : Nat) (h1 : 1 ≤ l.length) (h64 : l.length ≤ 64) (hk : k ≤ 64) (hs : s.length = k)
include h1 h64 hk hs
theorem l55d : ∀ (q p : Nat) (o : List Nat) (m : Nat), p + q = l.length → o.length = m → m ≤ p →
    lpB Try.prog LL ⟨55, 28, 6, none⟩ n55_5 n55_6 ⟨[(0, .func (.yield 0) #[] #[]), (2, pp 5), (4, rwV (longB l k)), (14, pp 6)], [.loop (lp24 1 2), skB s, oC 7 m, .dead, strB l, intB k, .siter ⟨(markU l).toArray⟩ p, nB o], [0, 3, 2]⟩ =
      some (.exit 0, ⟨[], [.loop (lp24 1 2), skB s, oC 6 (outW l s q p o).length, .dead, strB l, intB k, nB (outW l s q p o)], [0, 3, 2]⟩) := by
  intro q
  induction q with
  | zero =>
    intro p o m hp hm hmp
    have n1 := @next_end [.loop (lp24 1 2), skB s, oC 7 m, .dead, strB l, intB k, .siter ⟨(markU l).toArray⟩ p, nB o] 6 p l rfl (by omega)
    simp only [outW, hm]
    simp only [lp24] at n1 ⊢
    unfold nB at *
    generalize nvs o = V at *
    generalize (⟨(markU l).toArray⟩ : ByteArray) = z at *
    rw [lpB_eq]
    simp (maxSteps := 1000000) (disch := first | omega | decide | assumption | simp [scal]) [loadA_eq ia_9, loadA_eq ia_3, siter_ptr, siter_ren, o_nextT, n1, loop_ptr, loop_ren, oC_ptr, oC_ren, ptrB_dead, renB_dead]
  | succ q ih =>
    intro p o m hp hm hmp
    have hpl : p < l.length := by omega
    have n1 := @next_row [.loop (lp24 1 2), skB s, oC 7 m, .dead, strB l, intB k, .siter ⟨(markU l).toArray⟩ p, nB o] 6 p l rfl hpl
    have s1 := fun h => @slice_win l k p hpl h
    have w1 : IntKind.i64.wrap ((p : Int) + (k : Int)) = (p : Int) + k := wrap_i64_id (by omega) (by omega)
    have y1 := @y24d p s (winB l k p) o m (by rw [win_len hpl]; exact hs) hm (by omega) (strB l) (intB k) (.siter ⟨(markU l).toArray⟩ (p + 1))
    have hfw : fitR s (winB l k p) (winB l k p).length 0 = fitW l s p := by unfold fitW; rw [hs]
    rw [hfw] at y1
    simp only [outW]
    rcases Bool.eq_false_or_eq_true (fitW l s p) with hf | hf
    · rw [if_pos hf] at y1
      simp only [hf, if_true]
      have this := ih (p + 1) (o ++ [p]) (m + 1) (by omega) (by simp [hm]) (by omega)
      clear ih hf hfw
      simp only [lp24, List.set_cons_succ, List.set_cons_zero] at n1 y1 this ⊢
      unfold nB at *
      generalize outW l s q (p + 1) (o ++ [p]) = O at *
      generalize nvs (o ++ [p]) = V2 at *
      generalize nvs o = V at *
      generalize nvs O = V3 at *
      generalize (⟨(markU l).toArray⟩ : ByteArray) = z at *
      generalize ((cond (l.getD p false) 49 48 : Nat) : Int) = rr at *
      generalize winB l k p = w at *
      rw [show rwV (longB l k) = .string ⟨(markU (longB l k)).toArray⟩ from rfl] at *
      generalize (⟨(markU (longB l k)).toArray⟩ : ByteArray) = ls at *
      rw [lpB_eq]
      simp (maxSteps := 1000000) (disch := first | omega | decide | assumption | simp [scal]) [loadA_eq ia_9, loadA_eq ia_3, siter_ptr, siter_ren, o_nextT, n1, o_sliceT, s1, w1, y1, callV_y, addWr, ins, loop_ptr, loop_ren, oC_ptr, oC_ren, ptrB_dead, renB_dead, this]
    · rw [if_neg (by simp [hf])] at y1
      simp only [hf, Bool.false_eq_true, if_false]
      have this := ih (p + 1) o m (by omega) hm (by omega)
      clear ih hf hfw
      simp only [lp24, List.set_cons_succ, List.set_cons_zero] at n1 y1 this ⊢
      unfold nB at *
      generalize outW l s q (p + 1) o = O at *
      generalize nvs o = V at *
      generalize nvs O = V3 at *
      generalize (⟨(markU l).toArray⟩ : ByteArray) = z at *
      generalize ((cond (l.getD p false) 49 48 : Nat) : Int) = rr at *
      generalize winB l k p = w at *
      rw [show rwV (longB l k) = .string ⟨(markU (longB l k)).toArray⟩ from rfl] at *
      generalize (⟨(markU (longB l k)).toArray⟩ : ByteArray) = ls at *
      rw [lpB_eq]
      simp (maxSteps := 1000000) (disch := first | omega | decide | assumption | simp [scal]) [loadA_eq ia_9, loadA_eq ia_3, siter_ptr, siter_ren, o_nextT, n1, o_sliceT, s1, w1, y1, callV_y, addWr, ins, loop_ptr, loop_ren, oC_ptr, oC_ren, ptrB_dead, renB_dead, this]
theorem l55n : ∀ (q p : Nat) (W : List Nat), p + q = l.length → (W = [] ∨ W = [0]) →
    (outW l s q p [] = [] → ∃ W', (W' = [] ∨ W' = [0]) ∧
      lpB Try.prog LL ⟨55, 28, 6, none⟩ n55_5 n55_6 ⟨[(0, .func (.yield 0) #[] #[]), (2, pp 5), (4, rwV (longB l k)), (14, pp 6)], [.loop (lp24 1 2), skB s, oC 3 0, nB [], strB l, intB k, .siter ⟨(markU l).toArray⟩ p], W⟩ =
        some (.exit 0, ⟨[], [.loop (lp24 1 2), skB s, oC 3 0, nB [], strB l, intB k], W'⟩)) ∧
    (outW l s q p [] ≠ [] →
      lpB Try.prog LL ⟨55, 28, 6, none⟩ n55_5 n55_6 ⟨[(0, .func (.yield 0) #[] #[]), (2, pp 5), (4, rwV (longB l k)), (14, pp 6)], [.loop (lp24 1 2), skB s, oC 3 0, nB [], strB l, intB k, .siter ⟨(markU l).toArray⟩ p], W⟩ =
        some (.exit 0, ⟨[], [.loop (lp24 1 2), skB s, oC 6 (outW l s q p []).length, .dead, strB l, intB k, nB (outW l s q p [])], [0, 3, 2]⟩)) := by
  intro q
  induction q with
  | zero =>
    intro p W hp hW
    refine ⟨fun _ => ⟨W, hW, ?_⟩, fun h => absurd rfl h⟩
    have n1 := @next_end [.loop (lp24 1 2), skB s, oC 3 0, nB [], strB l, intB k, .siter ⟨(markU l).toArray⟩ p] 6 p l rfl (by omega)
    simp only [lp24] at n1 ⊢
    unfold nB at *
    generalize nvs [] = V at *
    generalize (⟨(markU l).toArray⟩ : ByteArray) = z at *
    rw [lpB_eq]
    rcases hW with rfl | rfl <;>
    simp (maxSteps := 1000000) (disch := first | omega | decide | assumption | simp [scal]) [loadA_eq ia_9, loadA_eq ia_3, siter_ptr, siter_ren, o_nextT, n1, loop_ptr, loop_ren, oC_ptr, oC_ren]
  | succ q ih =>
    intro p W hp hW
    have hpl : p < l.length := by omega
    have n1 := @next_row [.loop (lp24 1 2), skB s, oC 3 0, nB [], strB l, intB k, .siter ⟨(markU l).toArray⟩ p] 6 p l rfl hpl
    have s1 := fun h => @slice_win l k p hpl h
    have w1 : IntKind.i64.wrap ((p : Int) + (k : Int)) = (p : Int) + k := wrap_i64_id (by omega) (by omega)
    have y1 := @y24e p s (winB l k p) (by rw [win_len hpl]; exact hs) (strB l) (intB k) (.siter ⟨(markU l).toArray⟩ (p + 1))
    have hfw : fitR s (winB l k p) (winB l k p).length 0 = fitW l s p := by unfold fitW; rw [hs]
    rw [hfw] at y1
    simp only [outW]
    rcases Bool.eq_false_or_eq_true (fitW l s p) with hf | hf
    · rw [if_pos hf] at y1
      simp only [hf, if_true]
      have hne : outW l s q (p + 1) ([] ++ [p]) ≠ [] := by
        have key : ∀ (q p : Nat) (o : List Nat), o ≠ [] → outW l s q p o ≠ [] := by
          intro q
          induction q with
          | zero => intro p o h; exact h
          | succ q ih => intro p o h; simp only [outW]; split
                         · exact ih _ _ (by simp)
                         · exact ih _ _ h
        exact key _ _ _ (by simp)
      refine ⟨fun h => absurd h hne, fun _ => ?_⟩
      have this := l55d l s k h1 h64 hk hs q (p + 1) ([] ++ [p]) 1 (by omega) rfl (by omega)
      clear ih hf hfw hne
      simp only [lp24, List.set_cons_succ, List.set_cons_zero, List.length_cons, List.length_nil, List.cons_append, List.nil_append, Nat.reduceAdd] at n1 y1 this ⊢
      unfold nB at *
      generalize outW l s q (p + 1) [p] = O at *
      generalize nvs [p] = V2 at *
      generalize nvs [] = V at *
      generalize nvs O = V3 at *
      generalize (⟨(markU l).toArray⟩ : ByteArray) = z at *
      generalize ((cond (l.getD p false) 49 48 : Nat) : Int) = rr at *
      generalize winB l k p = w at *
      rw [show rwV (longB l k) = .string ⟨(markU (longB l k)).toArray⟩ from rfl] at *
      generalize (⟨(markU (longB l k)).toArray⟩ : ByteArray) = ls at *
      rw [lpB_eq]
      rcases hW with rfl | rfl <;>
      simp (maxSteps := 1000000) (disch := first | omega | decide | assumption | simp [scal]) [loadA_eq ia_9, loadA_eq ia_3, siter_ptr, siter_ren, o_nextT, n1, o_sliceT, s1, w1, y1, callV_y, addWr, ins, loop_ptr, loop_ren, oC_ptr, oC_ren, ptrB_dead, renB_dead, this]
    · rw [if_neg (by simp [hf])] at y1
      simp only [hf, Bool.false_eq_true, if_false]
      obtain ⟨i1, i2⟩ := ih (p + 1) [0] (by omega) (.inr rfl)
      clear ih hf hfw
      have key : lpB Try.prog LL ⟨55, 28, 6, none⟩ n55_5 n55_6 ⟨[(0, .func (.yield 0) #[] #[]), (2, pp 5), (4, rwV (longB l k)), (14, pp 6)], [.loop (lp24 1 2), skB s, oC 3 0, nB [], strB l, intB k, .siter ⟨(markU l).toArray⟩ p], W⟩ =
          lpB Try.prog LL ⟨55, 28, 6, none⟩ n55_5 n55_6 ⟨[(0, .func (.yield 0) #[] #[]), (2, pp 5), (4, rwV (longB l k)), (14, pp 6)], [.loop (lp24 1 2), skB s, oC 3 0, nB [], strB l, intB k, .siter ⟨(markU l).toArray⟩ (p + 1)], [0]⟩ := by
        clear i1 i2
        simp only [lp24, List.set_cons_succ, List.set_cons_zero] at n1 y1 ⊢
        unfold nB at *
        generalize nvs [] = V at *
        generalize (⟨(markU l).toArray⟩ : ByteArray) = z at *
        generalize ((cond (l.getD p false) 49 48 : Nat) : Int) = rr at *
        generalize winB l k p = w at *
        rw [show rwV (longB l k) = .string ⟨(markU (longB l k)).toArray⟩ from rfl] at *
        generalize (⟨(markU (longB l k)).toArray⟩ : ByteArray) = ls at *
        conv => lhs; rw [lpB_eq]
        rcases hW with rfl | rfl <;>
        simp (maxSteps := 1000000) (disch := first | omega | decide | assumption | simp [scal]) [loadA_eq ia_9, loadA_eq ia_3, siter_ptr, siter_ren, o_nextT, n1, o_sliceT, s1, w1, y1, callV_y, addWr, ins, loop_ptr, loop_ren, oC_ptr, oC_ren, ptrB_dead, renB_dead]
      rw [key]
      exact ⟨i1, i2⟩
end
end Go.Proofs.Ytjimphlkhjmaiaa.sw
namespace Go.Proofs.Ytjimphlkhjmaiaa.sw
open Go.GE
set_option linter.unusedVariables false
set_option linter.unusedSimpArgs false
set_option linter.unusedSectionVars false
set_option maxRecDepth 100000
set_option maxHeartbeats 1000000
attribute [local simp] runOps_nil runOps_cons runOpsF_nil runOpsF_cons fstS_some fstF_some opStep_eq want_none oStep_true oStep_false fin_pure fin_read fin_alloc fin_write storeB wrN cellV addWr o_move o_assign o_pick o_alloc o_box o_load o_store o_nilCheck o_bin o_un o_extract o_callV o_callB o_callI callV_f callV_y callV_fc o_makeFunc partsA Instr.fill builtin_len builtin_max2 bin_add bin_sub bin_mul bin_quo bin_rem bin_lss bin_leq bin_gtr bin_geq bin_eql bin_neq un_neg un_not bin_shr bin_shl wrap_u64_id opd opds optAll putO nbeq nblt constOk isC ops sub cl cr co bodyOf thenS_normal thenS_ret thenS_exit thenS_goto afterN_normal afterN_ret afterN_exit afterN_goto condS_true condS_false blockS_normal blockS_ret blockS_exit blockS_goto headS normS normK_eq fixS_nil fixS_cons fix1 fixV emptyB keepO_nil keepO_cons roundC_normal roundC_exit roundC_ret roundC_goto sweep_eq sweepD rnm pickR pickW rootsB ptrT renT ptrFn renFn ptrB_flat ptrB_non renB_flat renB_non plainS_some drawS_some fpsOk disj unord range' dropTo enumT undef wrap_i64_id Value.cells mkCells ptrTo scal cellsAt rdN endS_ret resultsA Option.bind_some tupV finish reachN dep ptrL_eq ptrL renL_eq renL ptrV_bool ptrV_int ptrV_string ptrV_nilFunc ptrV_nilIface ptrV_nilPtr ptrV_ptr ptrV_nilSl ptrV_sl ptrV_iface ptrV_agg ptrV_tuple ptrV_func renV_bool renV_int renV_string renV_nilFunc renV_nilIface renV_nilPtr renV_ptr renV_nilSl renV_sl renV_iface renV_agg renV_tuple renV_func gotoS_goto gotoS_normal gotoS_exit gotoS_ret skip_seq sliceE bnd bndHi intOf optOpd keepT_nil keepT_cons keepC_t keepC_f lk_nil lk_cons lkC_t lkC_f has_nil has_cons hasC_t hasC_f rep_nil rep_cons repC_t repC_f put_eq putC_t putC_f mem_nil mem_cons memC_t memC_f idx_nil idx_cons idxC_t idxC_f reach_nil reachP_cons reachQ_t reachQ_f ptrB_dead renB_dead ins_eq
attribute [local simp] n55_1s n55_3s n55_7s n55_10s n55_11s n55_9s n55_14s n55_16s n55_18s n55_19s n55_17s n55_15s n55_13s n55_12s n55_8s n55_6s n55_5s n55_5g n55_4s n55_2s n55_0s Try.f55 n24_1s n24_4s n24_8s n24_11s n24_12s n24_10s n24_14s n24_17s n24_18s n24_16s n24_20s n24_23s n24_24s n24_22s n24_26s n24_29s n24_30s n24_28s n24_31s n24_27s n24_25s n24_21s n24_19s n24_15s n24_13s n24_9s n24_7s n24_6s n24_33s n24_35s n24_38s n24_42s n24_43s n24_41s n24_47s n24_51s n24_54s n24_55s n24_53s n24_58s n24_60s n24_62s n24_63s n24_61s n24_59s n24_57s n24_56s n24_52s n24_50s n24_49s n24_49g n24_48s n24_46s n24_64s n24_45s n24_44s n24_39s n24_37s n24_66s n24_67s n24_65s n24_36s n24_34s n24_32s n24_5s n24_3s n24_2s n24_2j0 n24_2i0 n24_0s Try.f24
section
variable (l : List Bool) (s : List (Option Bool)) (k : Nat) (h1 : 1 ≤ l.length) (h64 : l.length ≤ 64) (hk : k ≤ 64) (hs : s.length = k)
include h1 h64 hk hs
theorem c55c :
    (outW l s l.length 0 [] = [] → ∃ ws, (ws = [] ∨ ws = [(0, .loop (lp24 1 2))]) ∧
      LL.run 55 [.func (.yield 0) #[] #[], pp 4, pp 5] [.loop (lp24 1 2), skB s, oC 3 0, nB [], strB l, intB k] = some ⟨.tuple #[], [], ws⟩) ∧
    (outW l s l.length 0 [] ≠ [] →
      LL.run 55 [.func (.yield 0) #[] #[], pp 4, pp 5] [.loop (lp24 1 2), skB s, oC 3 0, nB [], strB l, intB k] = some ⟨.tuple #[], [nB (outW l s l.length 0 [])], [(0, .loop (lp24 1 2)), (3, .dead), (2, oC 6 (outW l s l.length 0 []).length)]⟩) := by
  obtain ⟨t1, t2⟩ := l55n l s k h1 h64 hk hs l.length 0 [] (by omega) (.inl rfl)
  have d1 : ((k : Int).tdiv (l.length : Int)) = ((k / l.length : Nat) : Int) := rfl
  have hd : k / l.length ≤ k := Nat.div_le_self _ _
  have w1 : IntKind.i64.wrap ((k / l.length : Nat) : Int) = ((k / l.length : Nat) : Int) := wrap_nn (by omega)
  have w2 : IntKind.i64.wrap (2 + ((k / l.length : Nat) : Int)) = ((2 + k / l.length : Nat) : Int) := by rw [show (2 : Int) + ((k / l.length : Nat) : Int) = ((2 + k / l.length : Nat) : Int) from (by simp)]; exact wrap_nn (by omega)
  have a1 : ∀ h, callH LL 56 [rwV l, iv (2 + ((k / l.length : Nat) : Int))] h = some ⟨rwV (repB l (2 + k / l.length)), h, [], []⟩ := fun h => by
    have := k56 l (2 + k / l.length) (by omega) (by omega) h
    rw [show ((2 + k / l.length : Nat) : Int) = (2 : Int) + ((k / l.length : Nat) : Int) from (by simp)] at this
    exact this
  have a2 : ∀ h, lenA Try.prog h 9 (.string ⟨(markU l).toArray⟩) = some (iv (markU l).length, []) := fun h => @lenA_st h (markU l)
  have hz : ¬ ((l.length : Int) = 0) := by omega
  rw [mark_len] at a2
  have pre : ∀ R, lpB Try.prog LL ⟨55, 28, 6, none⟩ n55_5 n55_6 ⟨[(0, .func (.yield 0) #[] #[]), (2, pp 5), (4, rwV (longB l k)), (14, pp 6)], [.loop (lp24 1 2), skB s, oC 3 0, nB [], strB l, intB k, .siter ⟨(markU l).toArray⟩ 0], []⟩ = some R → (∃ h ws, R = (.exit 0, ⟨[], h, ws⟩)) →
      LL.run 55 [.func (.yield 0) #[] #[], pp 4, pp 5] [.loop (lp24 1 2), skB s, oC 3 0, nB [], strB l, intB k] = endS Try.prog [] 6 (some (.normal, R.2)) := by
    intro R this hR
    refine (L_run_eq rfl).trans ?_
    rw [run55 _ _ _ (by simp)]
    clear t1 t2 hs
    simp only [lp24, longB] at this ⊢
    generalize repB l (2 + k / l.length) = lb at *
    generalize k / l.length = kd at *
    unfold strB rwV st at *
    generalize (⟨(markU l).toArray⟩ : ByteArray) = z at *
    obtain ⟨h, ws, rfl⟩ := hR
    simp (maxSteps := 1000000) (disch := first | omega | decide | assumption | simp [scal]) [loadA_eq ia_9, loadA_eq ia_3, siter_ptr, siter_ren, o_rangeT, loop_ptr, loop_ren, oC_ptr, oC_ren, ptrB_dead, renB_dead, d1, hz, w1, w2, a1, a2, this]
  refine ⟨fun hd => ?_, fun hd => ?_⟩
  · obtain ⟨W', g1, g2⟩ := t1 hd
    have := pre _ g2 ⟨_, _, rfl⟩
    rcases g1 with rfl | rfl
    · refine ⟨_, .inl rfl, this.trans ?_⟩
      simp [endS_normal, finish]
    · refine ⟨_, .inr rfl, this.trans ?_⟩
      simp only [lp24]
      simp [endS_normal, finish, loop_ptr, loop_ren, renT, renV_ptr]
  · have g2 := t2 hd
    refine (pre _ g2 ⟨_, _, rfl⟩).trans ?_
    simp only [lp24]
    generalize outW l s l.length 0 [] = O at *
    unfold nB at *
    generalize nvs O = V at *
    clear g2 t1 t2 pre hd
    simp (maxSteps := 1000000) (disch := first | omega | decide | assumption | simp [scal]) [endS_normal, finish, loop_ptr, loop_ren, renB_flat, oC_ptr, oC_ren, renT, renV_ptr]
abbrev eB : Blk := .cells [] 1 true true
theorem h55c :
    (outW l s l.length 0 [] = [] → ∃ W, (W = [] ∨ W = [6]) ∧
      callH LL 55 [.func (.yield 6) #[] #[], pp 4, pp 5] [skB s, eB, oC 3 0, nB [], strB l, intB k, .loop (lp24 0 2)] =
        some ⟨.tuple #[], [skB s, eB, oC 3 0, nB [], strB l, intB k, .loop (lp24 0 2)], [6, 0, 2, 3, 4, 5], W⟩) ∧
    (outW l s l.length 0 [] ≠ [] →
      callH LL 55 [.func (.yield 6) #[] #[], pp 4, pp 5] [skB s, eB, oC 3 0, nB [], strB l, intB k, .loop (lp24 0 2)] =
        some ⟨.tuple #[], [skB s, eB, oC 7 (outW l s l.length 0 []).length, .dead, strB l, intB k, .loop (lp24 0 2), nB (outW l s l.length 0 [])], [6, 0, 2, 3, 4, 5], [6, 3, 2]⟩) := by
  obtain ⟨t1, t2⟩ := c55c l s k h1 h64 hk hs
  have hm : ∀ q : Nat, 20 < q → reach [skB s, eB, oC 3 0, nB [], strB l, intB k, .loop (lp24 0 2)] 0 q [6, 4, 5] [] = [6, 0, 2, 3, 4, 5] := by
    intro q hq
    obtain ⟨q, rfl⟩ : ∃ j, q = j + 20 := ⟨q - 20, by omega⟩
    simp [reach_cons, reachC_t, reachC_f, reach_nil, rootsB, GE.mem, nblt, nbeq, loop_ptr, oC_ptr, ptrB_flat, lp24, ptrT, ptrV_ptr, ptrV, dep]
  have hp : ([.func (.yield 6) #[] #[], pp 4, pp 5] : List Value).flatMap (ptrV dep) = [6, 4, 5] := rfl
  have key : ∀ rr, LL.run 55 [.func (.yield 0) #[] #[], pp 4, pp 5] [.loop (lp24 1 2), skB s, oC 3 0, nB [], strB l, intB k] = some rr →
      callH0 LL 55 [.func (.yield 6) #[] #[], pp 4, pp 5] [skB s, eB, oC 3 0, nB [], strB l, intB k, .loop (lp24 0 2)] =
        mergeB [skB s, eB, oC 3 0, nB [], strB l, intB k, .loop (lp24 0 2)] [6, 0, 2, 3, 4, 5] rr := by
    intro rr hrr
    unfold callH0
    simp only [hp, hm reachN (by decide)]
    simp only [lp24] at hrr ⊢
    unfold nB at hrr ⊢
    generalize nvs [] = V at hrr ⊢
    simp [optAll, renV_func, renFn, renL, renV_ptr, dep, idx, nbeq, loop_ren, oC_ren, renB_flat, renT, renL_eq, renV_int, renV_sl, hrr]
  refine ⟨fun hd => ?_, fun hd => ?_⟩
  · obtain ⟨ws, g1, g2⟩ := t1 hd
    rcases g1 with rfl | rfl
    · refine ⟨_, .inl rfl, callH_of (by intro _; first | trivial | rfl) ?_ (by simp)⟩
      rw [key _ g2]
      simp [mergeB, renV_tuple, renL, dep, optAll]
    · refine ⟨_, .inr rfl, callH_of (by intro _; first | trivial | rfl) ?_ (by simp)⟩
      rw [key _ g2]
      simp only [lp24]
      simp [mergeB, renV_tuple, renL, dep, optAll, loop_ren, renB_flat, renT, renV_ptr, nblt]
  · have g2 := t2 hd
    refine callH_of (by intro _; first | trivial | rfl) ?_ (by simp)
    rw [key _ g2]
    simp only [lp24]
    generalize outW l s l.length 0 [] = O at *
    unfold nB at *
    generalize nvs O = V at *
    clear g2 t1 t2 key hd
    simp [mergeB, renV_tuple, renL, dep, optAll, loop_ren, oC_ren, renB_flat, renT, renV_ptr, renV_sl, nblt]
theorem k24 (hk1 : 1 ≤ k) (h : List Blk) : callH LL 24 [rwV l, skV s] h = some ⟨.tuple #[sl h.length 0 (outW l s l.length 0 []).length (outW l s l.length 0 []).length, iv 0], h ++ [nB (outW l s l.length 0 [])], [], []⟩ := by
  obtain ⟨t1, t2⟩ := h55c l s k h1 h64 hk hs
  have c1 := fun h => k22 l h1 h64 h
  have c2 := fun h => k40 l k h
  have c3 := fun h => k42q s h
  have e0 : ¬ seeU s = [] := fun e => by have := @see_len s; rw [e] at this; simp at this; omega
  have c4 := fun t c => @bin_eqls t c (seeU s) []
  have c5 := fun h => @lenA_st h (seeU s)
  rw [see_len, hs] at c5
  have e1 : ¬ ((64 : Int) < (k : Int)) := by omega
  have e2 : ¬ (64 < k) := by omega
  generalize hO : outW l s l.length 0 [] = O at *
  refine callN_none (v := .tuple #[sl 0 0 O.length O.length, iv 0]) (news := [nB O]) rfl (fun _ => rfl) (L_run rfl ?_) (fun blk hb => by
    simp only [List.mem_cons, List.not_mem_nil, or_false] at hb
    rcases hb with rfl; exact noIdB_flat) (by simp [renV_tuple, renL, renV_sl, renV_int, dep, nblt])
  clear hO
  rw [run24 _ _ _ (by simp)]
  by_cases hd : O = []
  · obtain ⟨W, hW, e⟩ := t1 hd
    subst hd
    clear t1 t2
    simp only [lp24, nB, nvs, List.map_nil, eB] at e ⊢
    simp (maxSteps := 1000000) (disch := first | omega | decide | assumption | simp [scal]) [loadA_eq ia_9, za_34, loadA_eq ia_34, o_indexAddrS es_34, ze_34, o_buildSlice es_34 ze_34 (by decide) ba_34_1, ap_34, builtin_append ni_34, sz_34, want_some q24_60g4, scpL_eq, c1, c2, c3, c4, c5, e0, e1, e2, oC_ptr, oC_ren]
    rw [range_step n24_40e n24_40k rfl]
    simp (maxSteps := 1000000) (disch := first | omega | decide | assumption | simp [scal]) [loadA_eq ia_9, za_34, loadA_eq ia_34, o_indexAddrS es_34, ze_34, o_buildSlice es_34 ze_34 (by decide) ba_34_1, ap_34, builtin_append ni_34, sz_34, want_some q24_60g4, e]
    rw [rangeE_ready rfl rfl rfl]
    rcases hW with rfl | rfl <;>
    simp (maxSteps := 1000000) (disch := first | omega | decide | assumption | simp [scal]) [loadA_eq ia_9, za_34, loadA_eq ia_34, o_indexAddrS es_34, ze_34, o_buildSlice es_34 ze_34 (by decide) ba_34_1, ap_34, builtin_append ni_34, sz_34, want_some q24_60g4, addWr, oC_ptr, oC_ren, ptrB_dead, renB_dead, gotoS_normal, gotoS_ret]
  · have e := t2 hd
    clear t1 t2
    simp only [lp24, nB, eB] at e ⊢
    rw [show nvs [] = [] from rfl] at e
    generalize nvs O = V at *
    simp (maxSteps := 1000000) (disch := first | omega | decide | assumption | simp [scal]) [loadA_eq ia_9, za_34, loadA_eq ia_34, o_indexAddrS es_34, ze_34, o_buildSlice es_34 ze_34 (by decide) ba_34_1, ap_34, builtin_append ni_34, sz_34, want_some q24_60g4, scpL_eq, c1, c2, c3, c4, c5, e0, e1, e2, oC_ptr, oC_ren]
    rw [range_step n24_40e n24_40k rfl]
    simp (maxSteps := 1000000) (disch := first | omega | decide | assumption | simp [scal]) [loadA_eq ia_9, za_34, loadA_eq ia_34, o_indexAddrS es_34, ze_34, o_buildSlice es_34 ze_34 (by decide) ba_34_1, ap_34, builtin_append ni_34, sz_34, want_some q24_60g4, e]
    rw [rangeE_ready rfl rfl rfl]
    simp (maxSteps := 1000000) (disch := first | omega | decide | assumption | simp [scal]) [loadA_eq ia_9, za_34, loadA_eq ia_34, o_indexAddrS es_34, ze_34, o_buildSlice es_34 ze_34 (by decide) ba_34_1, ap_34, builtin_append ni_34, sz_34, want_some q24_60g4, addWr, oC_ptr, oC_ren, ptrB_dead, renB_dead, gotoS_normal, gotoS_ret]
end
end Go.Proofs.Ytjimphlkhjmaiaa.sw
namespace Go.Proofs.Ytjimphlkhjmaiaa.sw
open Go.GE
set_option linter.unusedVariables false
set_option linter.unusedSimpArgs false
set_option linter.unusedSectionVars false
set_option maxRecDepth 100000
set_option maxHeartbeats 1000000
abbrev whL (l : List Bool) (s : List (Option Bool)) : List Nat := outW l s l.length 0 []
theorem out_mem (l : List Bool) (s : List (Option Bool)) (i : Nat) : ∀ (q p : Nat) (o : List Nat), i ∈ outW l s q p o ↔ i ∈ o ∨ p ≤ i ∧ i < p + q ∧ fitW l s i = true := by
  intro q
  induction q with
  | zero => intro p o; simp only [outW]; exact ⟨.inl, fun h => h.elim id fun h => by omega⟩
  | succ q ih =>
    intro p o
    simp only [outW]
    split
    · rename_i h
      rw [ih, List.mem_append, List.mem_singleton]
      constructor
      · rintro ((h1 | rfl) | ⟨h1, h2, h3⟩)
        · exact .inl h1
        · exact .inr ⟨Nat.le_refl _, by omega, h⟩
        · exact .inr ⟨by omega, by omega, h3⟩
      · rintro (h1 | ⟨h1, h2, h3⟩)
        · exact .inl (.inl h1)
        · by_cases e : i = p
          · exact .inl (.inr e)
          · exact .inr ⟨by omega, by omega, h3⟩
    · rename_i h
      rw [ih]
      constructor
      · rintro (h1 | ⟨h1, h2, h3⟩)
        · exact .inl h1
        · exact .inr ⟨by omega, by omega, h3⟩
      · rintro (h1 | ⟨h1, h2, h3⟩)
        · exact .inl h1
        · have : i ≠ p := fun e => by subst e; exact h h3
          exact .inr ⟨by omega, by omega, h3⟩
theorem out_len (l : List Bool) (s : List (Option Bool)) : ∀ (q p : Nat) (o : List Nat), (outW l s q p o).length ≤ o.length + q := by
  intro q
  induction q with
  | zero => intro p o; exact Nat.le_refl _
  | succ q ih =>
    intro p o
    simp only [outW]
    split
    · have := ih (p + 1) (o ++ [p]); simp at this; omega
    · have := ih (p + 1) o; omega
theorem wh_mem {l : List Bool} {s : List (Option Bool)} {i : Nat} : i ∈ whL l s ↔ i < l.length ∧ fitW l s i = true := by
  rw [out_mem]; simp
theorem fit_iff {s : List (Option Bool)} {w : List Bool} : ∀ (q p : Nat), fitR s w q p = true ↔ ∀ j, p ≤ j → j < p + q → ∃ x b, s[j]? = some x ∧ w[j]? = some b ∧ okM x b = true := by
  intro q
  induction q with
  | zero => intro p; simp only [fitR]; exact ⟨fun _ j h1 h2 => by omega, fun _ => trivial⟩
  | succ q ih =>
    intro p
    rw [fitR, Bool.and_eq_true, ih]
    constructor
    · rintro ⟨h1, h2⟩ j ha hb
      by_cases e : j = p
      · subst e
        split at h1
        · rename_i x b e1 e2; exact ⟨x, b, e1, e2, h1⟩
        · cases h1
      · exact h2 j (by omega) (by omega)
    · intro h
      obtain ⟨x, b, e1, e2, e3⟩ := h p (by omega) (by omega)
      rw [e1, e2]
      exact ⟨e3, fun j ha hb => h j (by omega) (by omega)⟩
theorem fitW_iff {l : List Bool} {s : List (Option Bool)} {i : Nat} (hi : i < l.length) : fitW l s i = true ↔ ∀ j, j < s.length → ∃ x b, s[j]? = some x ∧ l[(i + j) % l.length]? = some b ∧ okM x b = true := by
  unfold fitW
  rw [win_len hi, fit_iff]
  constructor
  · intro h j hj
    obtain ⟨x, b, e1, e2, e3⟩ := h j (by omega) (by omega)
    rw [win_get (by omega) hi hj] at e2
    exact ⟨x, b, e1, e2, e3⟩
  · intro h j _ hj
    obtain ⟨x, b, e1, e2, e3⟩ := h j (by omega)
    rw [← win_get (by omega) hi (by omega : j < s.length)] at e2
    exact ⟨x, b, e1, e2, e3⟩
theorem fit_full {l : List Bool} {k i a : Nat} (hi : i < l.length) (ha : a < l.length) : fitW l ((winB l k a).map some) i = decide (winB l k i = winB l k a) := by
  have hl : ((winB l k a).map some).length = k := by rw [List.length_map, win_len ha]
  rw [Bool.eq_iff_iff, fitW_iff hi, decide_eq_true_iff, hl]
  constructor
  · intro h
    apply List.ext_getElem?
    intro j
    by_cases hj : j < k
    · obtain ⟨x, b, e1, e2, e3⟩ := h j hj
      rw [List.getElem?_map] at e1
      rw [win_get (by omega) hi hj, e2]
      cases hw : (winB l k a)[j]? with
      | none => rw [hw] at e1; cases e1
      | some c =>
        rw [hw] at e1
        cases e1
        have : c = b := by simpa [okM] using e3
        rw [this]
    · rw [List.getElem?_eq_none (by rw [win_len hi]; omega), List.getElem?_eq_none (by rw [win_len ha]; omega)]
  · intro h j hj
    have hx : (winB l k a)[j]? = l[(i + j) % l.length]? := by rw [← h, win_get (by omega) hi hj]
    have hlt : (i + j) % l.length < l.length := Nat.mod_lt _ (by omega)
    refine ⟨some (l[(i + j) % l.length]'hlt), l[(i + j) % l.length]'hlt, ?_, List.getElem?_eq_getElem _, by simp [okM]⟩
    rw [List.getElem?_map, hx, List.getElem?_eq_getElem hlt]
    rfl
/-- some marks become unknown -/
def mskL (U : Nat) : Nat → Nat → List (Option Bool) → List (Option Bool)
  | 0, _, s => s
  | q + 1, i, s => mskL U q (i + 1) (if U / 2 ^ i % 2 = 1 then s.set i none else s)
theorem msk_len {U : Nat} : ∀ {q i s}, (mskL U q i s).length = s.length := by
  intro q
  induction q with
  | zero => intro i s; rfl
  | succ q ih => intro i s; simp only [mskL, ih]; split <;> simp
theorem msk_get {U : Nat} : ∀ {q i : Nat} {s : List (Option Bool)} {j : Nat} {x : Option Bool}, (mskL U q i s)[j]? = some x → x = none ∨ s[j]? = some x := by
  intro q
  induction q with
  | zero => intro i s j x h; exact .inr h
  | succ q ih =>
    intro i s j x h
    rcases ih h with h | h
    · exact .inl h
    · split at h
      · rw [List.getElem?_set] at h
        split at h
        · split at h
          · exact .inl (Option.some.inj h).symm
          · cases h
        · exact .inr h
      · exact .inr h
theorem fit_msk {l : List Bool} {s : List (Option Bool)} {U q i : Nat} (hi : i < l.length) (h : fitW l s i = true) : fitW l (mskL U q 0 s) i = true := by
  rw [fitW_iff hi] at h ⊢
  intro j hj
  rw [msk_len] at hj
  obtain ⟨x, b, e1, e2, e3⟩ := h j hj
  obtain ⟨y, hy⟩ : ∃ y, (mskL U q 0 s)[j]? = some y := ⟨(mskL U q 0 s)[j]'(by rw [msk_len]; exact hj), List.getElem?_eq_getElem _⟩
  refine ⟨y, b, hy, e2, ?_⟩
  rcases msk_get hy with rfl | h2
  · rfl
  · rw [e1] at h2; cases h2; exact e3
theorem fit_take {l : List Bool} {s : List (Option Bool)} {m i : Nat} (hi : i < l.length) (h : fitW l s i = true) : fitW l (s.take m) i = true := by
  rw [fitW_iff hi] at h ⊢
  intro j hj
  rw [List.length_take] at hj
  obtain ⟨x, b, e1, e2, e3⟩ := h j (by omega)
  exact ⟨x, b, by rw [List.getElem?_take, if_pos (by omega)]; exact e1, e2, e3⟩
theorem D_more {l : List Bool} {k m : Nat} (hkm : k ≤ m) (h : D l k) : D l m := by
  intro i j hi hj e
  refine h i j hi hj ?_
  apply List.ext_getElem?
  intro x
  by_cases hx : x < k
  · rw [win_get (by omega) hi hx, win_get (by omega) hj hx, ← win_get (k := m) (by omega) hi (by omega), ← win_get (k := m) (by omega) hj (by omega), e]
  · rw [List.getElem?_eq_none (by rw [win_len hi]; omega), List.getElem?_eq_none (by rw [win_len hj]; omega)]
theorem out_none (l : List Bool) (s : List (Option Bool)) : ∀ (q p : Nat) (o : List Nat), (∀ i, p ≤ i → i < p + q → fitW l s i = false) → outW l s q p o = o := by
  intro q
  induction q with
  | zero => intro p o _; rfl
  | succ q ih => intro p o h; simp only [outW, h p (by omega) (by omega), Bool.false_eq_true, if_false]; exact ih _ _ fun i a b => h i (by omega) (by omega)
theorem out_one (l : List Bool) (s : List (Option Bool)) (a : Nat) (ha : fitW l s a = true) : ∀ (q p : Nat), p ≤ a → a < p + q → (∀ i, i < p + q → fitW l s i = true → i = a) → outW l s q p [] = [a] := by
  intro q
  induction q with
  | zero => intro p h1 h2 _; omega
  | succ q ih =>
    intro p h1 h2 h
    by_cases e : p = a
    · subst e
      simp only [outW, ha, if_true]
      rw [out_none]
      · rfl
      · intro i a1 a2
        rcases Bool.eq_false_or_eq_true (fitW l s i) with w | w
        · have := h i (by omega) w; omega
        · exact w
    · have hf : fitW l s p = false := by
        rcases Bool.eq_false_or_eq_true (fitW l s p) with w | w
        · exact absurd (h p (by omega) w) e
        · exact w
      simp only [outW, hf, Bool.false_eq_true, if_false]
      exact ih (p + 1) (by omega) (by omega) fun i hi => h i (by omega)
theorem wh_one {l : List Bool} {k a : Nat} (ha : a < l.length) (h : D l k) : whL l ((winB l k a).map some) = [a] := by
  refine out_one l _ a (by rw [fit_full ha ha]; simp) l.length 0 (by omega) (by omega) fun i hi hf => ?_
  rw [fit_full (by omega) ha] at hf
  exact h i a (by omega) ha (of_decide_eq_true hf)
end Go.Proofs.Ytjimphlkhjmaiaa.sw
namespace Go.Proofs.Ytjimphlkhjmaiaa.sw
open Go.GE
set_option linter.unusedVariables false
set_option linter.unusedSimpArgs false
set_option linter.unusedSectionVars false
set_option maxRecDepth 100000
set_option maxHeartbeats 2000000
attribute [local simp] runOps_nil runOps_cons runOpsF_nil runOpsF_cons fstS_some fstF_some opStep_eq want_none oStep_true oStep_false fin_pure fin_read fin_alloc fin_write storeB wrN cellV addWr o_move o_assign o_pick o_alloc o_box o_load o_store o_nilCheck o_bin o_un o_extract o_callV o_callB o_callI callV_f callV_y callV_fc o_makeFunc partsA Instr.fill builtin_len builtin_max2 bin_add bin_sub bin_mul bin_quo bin_rem bin_lss bin_leq bin_gtr bin_geq bin_eql bin_neq un_neg un_not bin_shr bin_shl wrap_u64_id opd opds optAll putO nbeq nblt constOk isC ops sub cl cr co bodyOf thenS_normal thenS_ret thenS_exit thenS_goto afterN_normal afterN_ret afterN_exit afterN_goto condS_true condS_false blockS_normal blockS_ret blockS_exit blockS_goto headS normS normK_eq fixS_nil fixS_cons fix1 fixV emptyB keepO_nil keepO_cons roundC_normal roundC_exit roundC_ret roundC_goto sweep_eq sweepD rnm pickR pickW rootsB ptrT renT ptrFn renFn ptrB_flat ptrB_non renB_flat renB_non plainS_some drawS_some fpsOk disj unord range' dropTo enumT undef wrap_i64_id Value.cells mkCells ptrTo scal cellsAt rdN endS_ret resultsA Option.bind_some tupV finish reachN dep ptrL_eq ptrL renL_eq renL ptrV_bool ptrV_int ptrV_string ptrV_nilFunc ptrV_nilIface ptrV_nilPtr ptrV_ptr ptrV_nilSl ptrV_sl ptrV_iface ptrV_agg ptrV_tuple ptrV_func renV_bool renV_int renV_string renV_nilFunc renV_nilIface renV_nilPtr renV_ptr renV_nilSl renV_sl renV_iface renV_agg renV_tuple renV_func gotoS_goto gotoS_normal gotoS_exit gotoS_ret skip_seq sliceE bnd bndHi intOf optOpd keepT_nil keepT_cons keepC_t keepC_f lk_nil lk_cons lkC_t lkC_f has_nil has_cons hasC_t hasC_f rep_nil rep_cons repC_t repC_f put_eq putC_t putC_f mem_nil mem_cons memC_t memC_f idx_nil idx_cons idxC_t idxC_f reach_nil reachP_cons reachQ_t reachQ_f ptrB_dead renB_dead ins_eq
attribute [local simp] n12_1s n12_3s n12_5s n12_7s n12_9s n12_12s n12_16s n12_19s n12_20s n12_18s n12_24s n12_26s n12_28s n12_29s n12_27s n12_25s n12_23s n12_22s n12_30s n12_21s n12_17s n12_15s n12_14s n12_14g n12_13s n12_11s n12_32s n12_34s n12_37s n12_40s n12_41s n12_39s n12_42s n12_38s n12_36s n12_44s n12_47s n12_51s n12_54s n12_55s n12_53s n12_59s n12_61s n12_64s n12_68s n12_71s n12_72s n12_70s n12_76s n12_77s n12_75s n12_74s n12_78s n12_73s n12_69s n12_67s n12_66s n12_66g n12_65s n12_63s n12_80s n12_83s n12_84s n12_82s n12_85s n12_81s n12_79s n12_62s n12_60s n12_58s n12_57s n12_86s n12_56s n12_52s n12_50s n12_49s n12_49g n12_48s n12_46s n12_88s n12_91s n12_94s n12_95s n12_93s n12_96s n12_92s n12_90s n12_98s n12_99s n12_97s n12_89s n12_87s n12_45s n12_43s n12_35s n12_33s n12_31s n12_10s n12_8s n12_6s n12_4s n12_2s n12_0s Try.f12
def skC (s : List (Option Bool)) : List Value := s.map fun x => uv (skU x).toNat
theorem skC_len {s : List (Option Bool)} : (skC s).length = s.length := by simp [skC]
theorem skC_set {s : List (Option Bool)} {i : Nat} {x : Option Bool} : (skC s).set i (uv (skU x).toNat) = skC (s.set i x) := by simp [skC, List.map_set]
theorem skC_take {s : List (Option Bool)} {m : Nat} : (skC s).take m = skC (s.take m) := by simp [skC, List.map_take]
theorem skC_bytes : ∀ {s : List (Option Bool)}, bytesOf (skC s) = some (seeU s) := by
  intro s
  induction s with
  | nil => rfl
  | cons x s ih =>
    show (bytesOf (skC s)).map (UInt8.ofNat (((skU x).toNat : Int)).toNat :: ·) = some (seeU (x :: s))
    rw [ih]
    rcases x with _ | b <;> first | rfl | (cases b <;> rfl)
theorem see_cells {s : List (Option Bool)} : cellsOfBytes ⟨(seeU s).toArray⟩ = skC s := by
  simp [cellsOfBytes, seeU, skC]
theorem conS_see {h : List Blk} {b e m : Nat} {s : List (Option Bool)} {fl ow : Bool} (hb : h[b]? = some (.cells (skC s) e fl ow)) (h1 : 1 ≤ m) (hm : m ≤ s.length) : conS h b 0 m = some ⟨skV (s.take m), h, [b], []⟩ := by
  obtain ⟨j, rfl⟩ : ∃ j, m = j + 1 := ⟨m - 1, by omega⟩
  have hr : ∀ (k o : Nat) (cs : List Value), o + k ≤ cs.length → rdN cs o k = some ((cs.drop o).take k) := by
    intro k
    induction k with
    | zero => intro o cs _; simp [rdN]
    | succ k ih =>
      intro o cs ho
      have hlt : o < cs.length := by omega
      rw [rdN, List.getElem?_eq_getElem hlt, ih (o + 1) cs (by omega), List.drop_eq_getElem_cons hlt, List.take_succ_cons]
  have hr := hr (j + 1) 0 (skC s) (by rw [skC_len]; omega)
  rw [List.drop_zero, skC_take] at hr
  simp only [conS, cellsC, hb, hr, skC_bytes, Option.map_some]
section
variable (l : List Bool) (U at' k : Nat) (full : List Nat) (m1 : Nat) (h64 : k ≤ 64) (hU : U < 2 ^ 64)
include h64 hU
theorem l12a : ∀ (q i : Nat) (s : List (Option Bool)), i + q = k → s.length = k →
    lpB Try.prog LL ⟨12, 213, 0, none⟩ n12_14 n12_15 ⟨[(3, .int .u64 (U : Int)), (9, rwV l), (10, iv at'), (11, iv k), (12, sl 0 0 k k), (13, sl 1 0 m1 m1), (14, iv 0), (53, iv k), (54, iv i)], [.cells (skC s) 1 true true, nB full], []⟩ =
      some (.exit 0, ⟨[(9, rwV l), (10, iv at'), (11, iv k), (12, sl 0 0 k k), (13, sl 1 0 m1 m1), (14, iv 0)], [.cells (skC (mskL U q i s)) 1 true true, nB full], []⟩) := by
  intro q
  induction q with
  | zero =>
    intro i s hi hs
    have e1 : ¬ i < k := by omega
    simp only [mskL]
    unfold nB
    generalize nvs full = V at *
    generalize skC s = F at *
    rw [lpB_eq]
    simp (maxSteps := 1000000) (disch := first | omega | decide | assumption | simp [scal]) [loadA_eq ia_46, o_convI cv_5_3, o_indexAddrS es_26, loadA_eq ia_9, lenA_sl lk_51, o_indexAddrS es_51, sz_5, o_sliceS sl_51, lenA_sl lk_26, loadA_eq ia_5, lenA_sl lk_34, o_indexAddrS es_34, loadA_eq ia_3, want_some q12_37g2, want_some q12_37g6, want_some q12_77g1, want_some q12_77g7, want_some q12_80g6, want_some q12_80g11, want_some q12_80g19, want_some q12_80g24, want_some q12_80g32, want_some q12_91g2, want_some q12_94g3, want_some q12_94g10, want_some q12_98g4, want_some q12_98g10, e1]
  | succ q ih =>
    intro i s hi hs
    have e1 : i < k := by omega
    have f1 := @fdiv_powu U i (by omega)
    have hy : U / 2 ^ i < 2 ^ 64 := Nat.lt_of_le_of_lt (Nat.div_le_self _ _) hU
    have e3 : i < (skC s).length := by rw [skC_len]; omega
    have hset := @skC_set s i none
    rw [show uv (skU none).toNat = .int .u8 63 from rfl] at hset
    have this := ih (i + 1) (if U / 2 ^ i % 2 = 1 then s.set i none else s) (by omega) (by split <;> simp [hs])
    simp only [cast1] at this
    simp only [mskL]
    clear ih
    obtain ⟨y, hyy⟩ : ∃ y, U / 2 ^ i = y := ⟨_, rfl⟩
    rw [hyy] at f1 hy
    simp only [hyy] at this ⊢
    clear hyy
    have f2 := fun c => @bin_and1u Try.prog 44 c y hy
    have hr : y % 2 = 0 ∨ y % 2 = 1 := by omega
    unfold nB at *
    generalize nvs full = V at *
    rcases hr with hr | hr
    · rw [hr] at f2
      simp only [hr, Nat.zero_ne_one, if_false] at this ⊢
      generalize mskL U q (i + 1) s = s2 at *
      generalize skC s2 = F2 at *
      generalize skC s = F at *
      rw [lpB_eq]
      simp (maxSteps := 1000000) (disch := first | omega | decide | assumption | simp [scal]) [loadA_eq ia_46, o_convI cv_5_3, o_indexAddrS es_26, loadA_eq ia_9, lenA_sl lk_51, o_indexAddrS es_51, sz_5, o_sliceS sl_51, lenA_sl lk_26, loadA_eq ia_5, lenA_sl lk_34, o_indexAddrS es_34, loadA_eq ia_3, want_some q12_37g2, want_some q12_37g6, want_some q12_77g1, want_some q12_77g7, want_some q12_80g6, want_some q12_80g11, want_some q12_80g19, want_some q12_80g24, want_some q12_80g32, want_some q12_91g2, want_some q12_94g3, want_some q12_94g10, want_some q12_98g4, want_some q12_98g10, e1, f1, f2, this]
    · rw [hr] at f2
      simp only [hr, if_true] at this ⊢
      generalize mskL U q (i + 1) (s.set i none) = s2 at *
      generalize skC s2 = F2 at *
      generalize skC (s.set i none) = F1 at *
      generalize skC s = F at *
      rw [lpB_eq]
      simp (maxSteps := 1000000) (disch := first | omega | decide | assumption | simp [scal]) [loadA_eq ia_46, o_convI cv_5_3, o_indexAddrS es_26, loadA_eq ia_9, lenA_sl lk_51, o_indexAddrS es_51, sz_5, o_sliceS sl_51, lenA_sl lk_26, loadA_eq ia_5, lenA_sl lk_34, o_indexAddrS es_34, loadA_eq ia_3, want_some q12_37g2, want_some q12_37g6, want_some q12_77g1, want_some q12_77g7, want_some q12_80g6, want_some q12_80g11, want_some q12_80g19, want_some q12_80g24, want_some q12_80g32, want_some q12_91g2, want_some q12_94g3, want_some q12_94g10, want_some q12_98g4, want_some q12_98g10, e1, e3, f1, f2, hset, this]
end
end Go.Proofs.Ytjimphlkhjmaiaa.sw
namespace Go.Proofs.Ytjimphlkhjmaiaa.sw
open Go.GE
set_option linter.unusedVariables false
set_option linter.unusedSimpArgs false
set_option linter.unusedSectionVars false
set_option maxRecDepth 100000
set_option maxHeartbeats 2000000
attribute [local simp] runOps_nil runOps_cons runOpsF_nil runOpsF_cons fstS_some fstF_some opStep_eq want_none oStep_true oStep_false fin_pure fin_read fin_alloc fin_write storeB wrN cellV addWr o_move o_assign o_pick o_alloc o_box o_load o_store o_nilCheck o_bin o_un o_extract o_callV o_callB o_callI callV_f callV_y callV_fc o_makeFunc partsA Instr.fill builtin_len builtin_max2 bin_add bin_sub bin_mul bin_quo bin_rem bin_lss bin_leq bin_gtr bin_geq bin_eql bin_neq un_neg un_not bin_shr bin_shl wrap_u64_id opd opds optAll putO nbeq nblt constOk isC ops sub cl cr co bodyOf thenS_normal thenS_ret thenS_exit thenS_goto afterN_normal afterN_ret afterN_exit afterN_goto condS_true condS_false blockS_normal blockS_ret blockS_exit blockS_goto headS normS normK_eq fixS_nil fixS_cons fix1 fixV emptyB keepO_nil keepO_cons roundC_normal roundC_exit roundC_ret roundC_goto sweep_eq sweepD rnm pickR pickW rootsB ptrT renT ptrFn renFn ptrB_flat ptrB_non renB_flat renB_non plainS_some drawS_some fpsOk disj unord range' dropTo enumT undef wrap_i64_id Value.cells mkCells ptrTo scal cellsAt rdN endS_ret resultsA Option.bind_some tupV finish reachN dep ptrL_eq ptrL renL_eq renL ptrV_bool ptrV_int ptrV_string ptrV_nilFunc ptrV_nilIface ptrV_nilPtr ptrV_ptr ptrV_nilSl ptrV_sl ptrV_iface ptrV_agg ptrV_tuple ptrV_func renV_bool renV_int renV_string renV_nilFunc renV_nilIface renV_nilPtr renV_ptr renV_nilSl renV_sl renV_iface renV_agg renV_tuple renV_func gotoS_goto gotoS_normal gotoS_exit gotoS_ret skip_seq sliceE bnd bndHi intOf optOpd keepT_nil keepT_cons keepC_t keepC_f lk_nil lk_cons lkC_t lkC_f has_nil has_cons hasC_t hasC_f rep_nil rep_cons repC_t repC_f put_eq putC_t putC_f mem_nil mem_cons memC_t memC_f idx_nil idx_cons idxC_t idxC_f reach_nil reachP_cons reachQ_t reachQ_f ptrB_dead renB_dead ins_eq
attribute [local simp] n12_1s n12_3s n12_5s n12_7s n12_9s n12_12s n12_16s n12_19s n12_20s n12_18s n12_24s n12_26s n12_28s n12_29s n12_27s n12_25s n12_23s n12_22s n12_30s n12_21s n12_17s n12_15s n12_14s n12_14g n12_13s n12_11s n12_32s n12_34s n12_37s n12_40s n12_41s n12_39s n12_42s n12_38s n12_36s n12_44s n12_47s n12_51s n12_54s n12_55s n12_53s n12_59s n12_61s n12_64s n12_68s n12_71s n12_72s n12_70s n12_76s n12_77s n12_75s n12_74s n12_78s n12_73s n12_69s n12_67s n12_66s n12_66g n12_65s n12_63s n12_80s n12_83s n12_84s n12_82s n12_85s n12_81s n12_79s n12_62s n12_60s n12_58s n12_57s n12_86s n12_56s n12_52s n12_50s n12_49s n12_49g n12_48s n12_46s n12_88s n12_91s n12_94s n12_95s n12_93s n12_96s n12_92s n12_90s n12_98s n12_99s n12_97s n12_89s n12_87s n12_45s n12_43s n12_35s n12_33s n12_31s n12_10s n12_8s n12_6s n12_4s n12_2s n12_0s Try.f12
/-- what is seen, and a window: mark by mark, as the law does it -/
def fitA (s : List (Option Bool)) (w : List Bool) : Nat → Nat → Bool → Bool
  | 0, _, a => a
  | q + 1, p, a => fitA s w q (p + 1) (a && (match s[p]?, w[p]? with | some x, some b => okM x b | _, _ => false))
theorem fitA_eq {s : List (Option Bool)} {w : List Bool} : ∀ (q p : Nat) (a : Bool), fitA s w q p a = (a && fitR s w q p) := by
  intro q
  induction q with
  | zero => intro p a; simp [fitA, fitR]
  | succ q ih =>
    intro p a
    (simp only [fitA, fitR, ih, Bool.and_assoc]) <;> (cases s[p]? <;> cases w[p]? <;> rfl)
section
variable (l : List Bool) (at' k n i : Nat) (s : List (Option Bool)) (w : List Bool) (o1 o2 o3 : List Nat) (m1 m2 m3 : Nat) (R : List Value)
  (h64 : k ≤ 64) (hs : s.length = k) (hw : w.length = k)
include h64 hs hw
theorem l12b : ∀ (q p : Nat) (a : Bool), p + q = k →
    lpB Try.prog LL ⟨12, 213, 0, none⟩ n12_66 n12_67 ⟨[(21, iv i), (22, rwV w), (23, .bool a), (104, iv k), (105, iv p), (9, rwV l), (10, iv at'), (11, iv k), (12, sl 0 0 k k), (13, sl 1 0 m1 m1), (16, sl 2 0 m2 m2), (18, sl 3 0 m3 m3), (20, .func (.func 39) #[] #[]), (96, sl 4 0 n n), (97, iv n), (98, iv i)], [.cells (skC s) 1 true true, nB o1, nB o2, nB o3, .cells R 1 true true], []⟩ =
      some (.exit 4, ⟨[(21, iv i), (22, rwV w), (23, .bool (fitA s w q p a)), (9, rwV l), (10, iv at'), (11, iv k), (12, sl 0 0 k k), (13, sl 1 0 m1 m1), (16, sl 2 0 m2 m2), (18, sl 3 0 m3 m3), (20, .func (.func 39) #[] #[]), (96, sl 4 0 n n), (97, iv n), (98, iv i)], [.cells (skC s) 1 true true, nB o1, nB o2, nB o3, .cells R 1 true true], []⟩) := by
  intro q
  induction q with
  | zero =>
    intro p a hp
    have e1 : ¬ p < k := by omega
    simp only [fitA]
    unfold nB
    generalize nvs o1 = V1 at *
    generalize nvs o2 = V2 at *
    generalize nvs o3 = V3 at *
    generalize skC s = F at *
    rw [lpB_eq]
    simp (maxSteps := 1000000) (disch := first | omega | decide | assumption | simp [scal]) [loadA_eq ia_46, o_convI cv_5_3, o_indexAddrS es_26, loadA_eq ia_9, lenA_sl lk_51, o_indexAddrS es_51, sz_5, o_sliceS sl_51, lenA_sl lk_26, loadA_eq ia_5, lenA_sl lk_34, o_indexAddrS es_34, loadA_eq ia_3, want_some q12_37g2, want_some q12_37g6, want_some q12_77g1, want_some q12_77g7, want_some q12_80g6, want_some q12_80g11, want_some q12_80g19, want_some q12_80g24, want_some q12_80g32, want_some q12_91g2, want_some q12_94g3, want_some q12_94g10, want_some q12_98g4, want_some q12_98g10, e1]
  | succ q ih =>
    intro p a hp
    have e1 : p < k := by omega
    obtain ⟨b, hb⟩ : ∃ b, w[p]? = some b := ⟨w[p]'(by omega), List.getElem?_eq_getElem _⟩
    obtain ⟨x, hx⟩ : ∃ x, s[p]? = some x := ⟨s[p]'(by omega), List.getElem?_eq_getElem _⟩
    have s1 := mark_at hb
    have g1 : (skC s)[p]? = some (uv (skU x).toNat) := by simp [skC, hx]
    have e3 : p < (skC s).length := by rw [skC_len]; omega
    have g2 : (skC s)[p]'e3 = uv (skU x).toNat := by have := List.getElem?_eq_getElem e3; rw [g1] at this; exact (Option.some.inj this).symm
    have e0 : (0 : Int) ≤ (p : Int) := by omega
    have this := ih (p + 1) (a && okM x b) (by omega)
    simp only [cast1] at this
    simp only [fitA, hb, hx]
    clear ih
    have hbu : (bitU b).toNat = cond b 49 48 := by cases b <;> rfl
    rw [← this]
    clear this
    unfold nB
    generalize nvs o1 = V1 at *
    generalize nvs o2 = V2 at *
    generalize nvs o3 = V3 at *
    generalize skC s = F at *
    have this := Eq.refl (lpB Try.prog LL ⟨12, 213, 0, none⟩ n12_66 n12_67 ⟨[(21, iv i), (22, rwV w), (23, .bool (a && okM x b)), (104, iv k), (105, .int .i64 ((p : Int) + 1)), (9, rwV l), (10, iv at'), (11, iv k), (12, sl 0 0 k k), (13, sl 1 0 m1 m1), (16, sl 2 0 m2 m2), (18, sl 3 0 m3 m3), (20, .func (.func 39) #[] #[]), (96, sl 4 0 n n), (97, iv n), (98, iv i)], [.cells F 1 true true, .cells V1 1 true true, .cells V2 1 true true, .cells V3 1 true true, .cells R 1 true true], []⟩)
    unfold rwV st at *
    generalize (⟨(markU w).toArray⟩ : ByteArray) = zw at *
    generalize (⟨(markU l).toArray⟩ : ByteArray) = zl at *
    conv => lhs; rw [lpB_eq]
    rcases x with _ | x
    · have q2 : (skU none).toNat = 63 := rfl
      rw [q2] at g1 g2
      rcases a <;>
      simp (maxSteps := 1000000) (disch := first | omega | decide | assumption | simp [scal]) [loadA_eq ia_46, o_convI cv_5_3, o_indexAddrS es_26, loadA_eq ia_9, lenA_sl lk_51, o_indexAddrS es_51, sz_5, o_sliceS sl_51, lenA_sl lk_26, loadA_eq ia_5, lenA_sl lk_34, o_indexAddrS es_34, loadA_eq ia_3, want_some q12_37g2, want_some q12_37g6, want_some q12_77g1, want_some q12_77g7, want_some q12_80g6, want_some q12_80g11, want_some q12_80g19, want_some q12_80g24, want_some q12_80g32, want_some q12_91g2, want_some q12_94g3, want_some q12_94g10, want_some q12_98g4, want_some q12_98g10, e1, e3, g1, g2, o_indexT, s1, e0, okM, Bool.true_and, Bool.and_true, Bool.false_and]
    · rcases a <;> rcases x <;> rcases b <;> simp only [okM, Bool.and_self, Bool.and_true, Bool.and_false, Bool.false_and, Bool.true_and, decide_true, decide_false, Bool.false_eq_true, Bool.true_eq_false] at * <;>
      (have q2 : (skU (some false)).toNat = 48 := rfl
       have q3 : (skU (some true)).toNat = 49 := rfl
       have q4 : (bitU false).toNat = 48 := rfl
       have q5 : (bitU true).toNat = 49 := rfl
       simp only [q2, q3] at g1 g2
       simp (maxSteps := 1000000) (disch := first | omega | decide | assumption | simp [scal]) [loadA_eq ia_46, o_convI cv_5_3, o_indexAddrS es_26, loadA_eq ia_9, lenA_sl lk_51, o_indexAddrS es_51, sz_5, o_sliceS sl_51, lenA_sl lk_26, loadA_eq ia_5, lenA_sl lk_34, o_indexAddrS es_34, loadA_eq ia_3, want_some q12_37g2, want_some q12_37g6, want_some q12_77g1, want_some q12_77g7, want_some q12_80g6, want_some q12_80g11, want_some q12_80g19, want_some q12_80g24, want_some q12_80g32, want_some q12_91g2, want_some q12_94g3, want_some q12_94g10, want_some q12_98g4, want_some q12_98g10, e1, e3, g1, g2, o_indexT, s1, e0, q4, q5])
end
end Go.Proofs.Ytjimphlkhjmaiaa.sw
namespace Go.Proofs.Ytjimphlkhjmaiaa.sw
open Go.GE
set_option linter.unusedVariables false
set_option linter.unusedSimpArgs false
set_option linter.unusedSectionVars false
set_option maxRecDepth 100000
set_option maxHeartbeats 2000000
attribute [local simp] runOps_nil runOps_cons runOpsF_nil runOpsF_cons fstS_some fstF_some opStep_eq want_none oStep_true oStep_false fin_pure fin_read fin_alloc fin_write storeB wrN cellV addWr o_move o_assign o_pick o_alloc o_box o_load o_store o_nilCheck o_bin o_un o_extract o_callV o_callB o_callI callV_f callV_y callV_fc o_makeFunc partsA Instr.fill builtin_len builtin_max2 bin_add bin_sub bin_mul bin_quo bin_rem bin_lss bin_leq bin_gtr bin_geq bin_eql bin_neq un_neg un_not bin_shr bin_shl wrap_u64_id opd opds optAll putO nbeq nblt constOk isC ops sub cl cr co bodyOf thenS_normal thenS_ret thenS_exit thenS_goto afterN_normal afterN_ret afterN_exit afterN_goto condS_true condS_false blockS_normal blockS_ret blockS_exit blockS_goto headS normS normK_eq fixS_nil fixS_cons fix1 fixV emptyB keepO_nil keepO_cons roundC_normal roundC_exit roundC_ret roundC_goto sweep_eq sweepD rnm pickR pickW rootsB ptrT renT ptrFn renFn ptrB_flat ptrB_non renB_flat renB_non plainS_some drawS_some fpsOk disj unord range' dropTo enumT undef wrap_i64_id Value.cells mkCells ptrTo scal cellsAt rdN endS_ret resultsA Option.bind_some tupV finish reachN dep ptrL_eq ptrL renL_eq renL ptrV_bool ptrV_int ptrV_string ptrV_nilFunc ptrV_nilIface ptrV_nilPtr ptrV_ptr ptrV_nilSl ptrV_sl ptrV_iface ptrV_agg ptrV_tuple ptrV_func renV_bool renV_int renV_string renV_nilFunc renV_nilIface renV_nilPtr renV_ptr renV_nilSl renV_sl renV_iface renV_agg renV_tuple renV_func gotoS_goto gotoS_normal gotoS_exit gotoS_ret skip_seq sliceE bnd bndHi intOf optOpd keepT_nil keepT_cons keepC_t keepC_f lk_nil lk_cons lkC_t lkC_f has_nil has_cons hasC_t hasC_f rep_nil rep_cons repC_t repC_f put_eq putC_t putC_f mem_nil mem_cons memC_t memC_f idx_nil idx_cons idxC_t idxC_f reach_nil reachP_cons reachQ_t reachQ_f ptrB_dead renB_dead ins_eq
attribute [local simp] n12_1s n12_3s n12_5s n12_7s n12_9s n12_12s n12_16s n12_19s n12_20s n12_18s n12_24s n12_26s n12_28s n12_29s n12_27s n12_25s n12_23s n12_22s n12_30s n12_21s n12_17s n12_15s n12_14s n12_14g n12_13s n12_11s n12_32s n12_34s n12_37s n12_40s n12_41s n12_39s n12_42s n12_38s n12_36s n12_44s n12_47s n12_51s n12_54s n12_55s n12_53s n12_59s n12_61s n12_64s n12_68s n12_71s n12_72s n12_70s n12_76s n12_77s n12_75s n12_74s n12_78s n12_73s n12_69s n12_67s n12_66s n12_66g n12_65s n12_63s n12_80s n12_83s n12_84s n12_82s n12_85s n12_81s n12_79s n12_62s n12_60s n12_58s n12_57s n12_86s n12_56s n12_52s n12_50s n12_49s n12_49g n12_48s n12_46s n12_88s n12_91s n12_94s n12_95s n12_93s n12_96s n12_92s n12_90s n12_98s n12_99s n12_97s n12_89s n12_87s n12_45s n12_43s n12_35s n12_33s n12_31s n12_10s n12_8s n12_6s n12_4s n12_2s n12_0s Try.f12
theorem be_eq (c b : Bool) : binA Try.prog .eql 4 c (.bool b) (.bool b) = some (.bool true) := by cases b <;> rfl
theorem be_ne (c b : Bool) : binA Try.prog .neq 4 c (.bool b) (.bool b) = some (.bool false) := by cases b <;> rfl
section
variable (l : List Bool) (a k n : Nat) (s : List (Option Bool)) (o1 o2 o3 : List Nat) (m1 m2 m3 : Nat)
  (h1 : 1 ≤ l.length) (l64 : l.length ≤ 64) (hk1 : 1 ≤ k) (h64 : k ≤ 64) (hs : s.length = k) (hn : l.length = n) (ha : a < n)
  (e1 : o1.length = m1) (e2 : o2.length = m2) (e3 : o3.length = m3) (b1 : m1 ≤ 64) (b2 : m2 ≤ 64) (b3 : m3 ≤ 64)
  (hF : ∀ i, i < n → decide (i ∈ o1) = decide (winB l k i = winB l k a)) (hS : ∀ i, i < n → decide (i ∈ o2) = fitW l s i)
  (hFS : ∀ i, i < n → i ∈ o1 → i ∈ o2) (hSG : ∀ i, i < n → i ∈ o2 → i ∈ o3)
include h1 l64 hk1 h64 hs hn ha e1 e2 e3 b1 b2 b3 hF hS hFS hSG
theorem l12c : ∀ (q i : Nat), i + q = n →
    lpB Try.prog LL ⟨12, 213, 0, none⟩ n12_49 n12_50 ⟨[(9, rwV l), (10, iv a), (11, iv k), (12, sl 0 0 k k), (13, sl 1 0 m1 m1), (16, sl 2 0 m2 m2), (18, sl 3 0 m3 m3), (20, .func (.func 39) #[] #[]), (96, sl 4 0 n n), (97, iv n), (98, iv i)], [.cells (skC s) 1 true true, nB o1, nB o2, nB o3, .cells (rowsV (winsL l k)) 1 true true], []⟩ =
      some (.exit 2, ⟨[(9, rwV l), (10, iv a), (11, iv k), (13, sl 0 0 m1 m1), (16, sl 1 0 m2 m2), (20, .func (.func 39) #[] #[])], [nB o1, nB o2], []⟩) := by
  intro q
  induction q with
  | zero =>
    intro i hi
    have g1 : ¬ i < n := by omega
    unfold nB
    generalize nvs o1 = V1 at *
    generalize nvs o2 = V2 at *
    generalize nvs o3 = V3 at *
    generalize skC s = F at *
    generalize rowsV (winsL l k) = R at *
    clear hF hS hFS hSG
    rw [lpB_eq]
    simp (maxSteps := 1000000) (disch := first | omega | decide | assumption | simp [scal]) [loadA_eq ia_46, o_convI cv_5_3, o_indexAddrS es_26, loadA_eq ia_9, lenA_sl lk_51, o_indexAddrS es_51, sz_5, o_sliceS sl_51, lenA_sl lk_26, loadA_eq ia_5, lenA_sl lk_34, o_indexAddrS es_34, loadA_eq ia_3, want_some q12_37g2, want_some q12_37g6, want_some q12_77g1, want_some q12_77g7, want_some q12_80g6, want_some q12_80g11, want_some q12_80g19, want_some q12_80g24, want_some q12_80g32, want_some q12_91g2, want_some q12_94g3, want_some q12_94g10, want_some q12_98g4, want_some q12_98g10, g1]
  | succ q ih =>
    intro i hi
    have g1 : i < n := by omega
    have hF := hF i g1
    have hS := hS i g1
    have hFS := hFS i g1
    have hSG := hSG i g1
    have this := ih (i + 1) (by omega)
    simp only [cast1] at this
    rw [← this]
    clear this ih
    have r0 : ∀ j, j < n → (rowsV (winsL l k))[j]? = some (rwV (winB l k j)) := fun j hj => rowsV_get (by simp [winsL, hn, hj])
    have rl : (rowsV (winsL l k)).length = n := by rw [rowsV_len]; simp [winsL, hn]
    have r1 := r0 i g1
    have r2 := r0 a ha
    have r3 : i < (rowsV (winsL l k)).length := by omega
    have r4 : a < (rowsV (winsL l k)).length := by omega
    have r5 : (rowsV (winsL l k))[i]'r3 = rwV (winB l k i) := by have := List.getElem?_eq_getElem r3; rw [r1] at this; exact (Option.some.inj this).symm
    have r6 : (rowsV (winsL l k))[a]'r4 = rwV (winB l k a) := by have := List.getElem?_eq_getElem r4; rw [r2] at this; exact (Option.some.inj this).symm
    clear r0
    have hw : (winB l k i).length = k := win_len (by omega)
    have lp := l12b l a k n i s (winB l k i) o1 o2 o3 m1 m2 m3 (rowsV (winsL l k)) h64 hs hw k 0 true (by omega)
    have hfit : fitA s (winB l k i) k 0 true = fitW l s i := by unfold fitW; rw [fitA_eq, Bool.true_and, hs, hw]
    rw [hfit] at lp
    simp only [Int.natCast_zero] at lp
    have x1 := @k39 i o1 m1 e1 b1 [.cells (skC s) 1 true true, nB o1, nB o2, nB o3, .cells (rowsV (winsL l k)) 1 true true] 1 rfl
    have x2 := @k39 i o2 m2 e2 b2 [.cells (skC s) 1 true true, nB o1, nB o2, nB o3, .cells (rowsV (winsL l k)) 1 true true] 2 rfl
    have x3 := @k39 i o3 m3 e3 b3 [.cells (skC s) 1 true true, nB o1, nB o2, nB o3, .cells (rowsV (winsL l k)) 1 true true] 3 rfl
    have x4 := fun h => k37 l k h1 l64 h64 h
    rw [hn] at x4
    have d1 := fun c => @bin_eqls 9 c (markU (winB l k i)) (markU (winB l k a))
    simp only [mark_eqP] at d1
    rw [← hF] at d1
    rw [← hS] at lp
    have hFS' : decide (i ∈ o1) = true → decide (i ∈ o2) = true := fun h => decide_eq_true (hFS (of_decide_eq_true h))
    have hSG' : decide (i ∈ o2) = true → decide (i ∈ o3) = true := fun h => decide_eq_true (hSG (of_decide_eq_true h))
    obtain ⟨z1, hz1⟩ : ∃ z, decide (i ∈ o1) = z := ⟨_, rfl⟩
    obtain ⟨z2, hz2⟩ : ∃ z, decide (i ∈ o2) = z := ⟨_, rfl⟩
    obtain ⟨z3, hz3⟩ : ∃ z, decide (i ∈ o3) = z := ⟨_, rfl⟩
    rw [hz1] at x1 hFS' d1
    rw [hz2] at x2 hFS' hSG' lp
    rw [hz3] at x3 hSG'
    clear hF hS hFS hSG hz1 hz2 hz3 hfit e1 e2 e3
    unfold nB at *
    generalize nvs o1 = V1 at *
    generalize nvs o2 = V2 at *
    generalize nvs o3 = V3 at *
    generalize skC s = F at *
    generalize rowsV (winsL l k) = R at *
    generalize winB l k i = w at *
    generalize winB l k a = wa at *
    have this := Eq.refl (lpB Try.prog LL ⟨12, 213, 0, none⟩ n12_49 n12_50 ⟨[(9, rwV l), (10, iv a), (11, iv k), (12, sl 0 0 k k), (13, sl 1 0 m1 m1), (16, sl 2 0 m2 m2), (18, sl 3 0 m3 m3), (20, .func (.func 39) #[] #[]), (96, sl 4 0 n n), (97, iv n), (98, .int .i64 ((i : Int) + 1))], [.cells F 1 true true, .cells V1 1 true true, .cells V2 1 true true, .cells V3 1 true true, .cells R 1 true true], []⟩)
    conv => lhs; rw [lpB_eq]
    rcases z1
    · rcases z2
      · simp (maxSteps := 1000000) (disch := first | omega | decide | assumption | simp [scal]) [loadA_eq ia_46, o_convI cv_5_3, o_indexAddrS es_26, loadA_eq ia_9, lenA_sl lk_51, o_indexAddrS es_51, sz_5, o_sliceS sl_51, lenA_sl lk_26, loadA_eq ia_5, lenA_sl lk_34, o_indexAddrS es_34, loadA_eq ia_3, want_some q12_37g2, want_some q12_37g6, want_some q12_77g1, want_some q12_77g7, want_some q12_80g6, want_some q12_80g11, want_some q12_80g19, want_some q12_80g24, want_some q12_80g32, want_some q12_91g2, want_some q12_94g3, want_some q12_94g10, want_some q12_98g4, want_some q12_98g10, g1, ha, r1, r2, r3, r4, r5, r6, lp, x1, x2, x3, x4, d1, be_eq, be_ne]
      · have hz := hSG' rfl
        subst hz
        simp (maxSteps := 1000000) (disch := first | omega | decide | assumption | simp [scal]) [loadA_eq ia_46, o_convI cv_5_3, o_indexAddrS es_26, loadA_eq ia_9, lenA_sl lk_51, o_indexAddrS es_51, sz_5, o_sliceS sl_51, lenA_sl lk_26, loadA_eq ia_5, lenA_sl lk_34, o_indexAddrS es_34, loadA_eq ia_3, want_some q12_37g2, want_some q12_37g6, want_some q12_77g1, want_some q12_77g7, want_some q12_80g6, want_some q12_80g11, want_some q12_80g19, want_some q12_80g24, want_some q12_80g32, want_some q12_91g2, want_some q12_94g3, want_some q12_94g10, want_some q12_98g4, want_some q12_98g10, g1, ha, r1, r2, r3, r4, r5, r6, lp, x1, x2, x3, x4, d1, be_eq, be_ne]
    · have hz := hFS' rfl
      subst hz
      have hz := hSG' rfl
      subst hz
      simp (maxSteps := 1000000) (disch := first | omega | decide | assumption | simp [scal]) [loadA_eq ia_46, o_convI cv_5_3, o_indexAddrS es_26, loadA_eq ia_9, lenA_sl lk_51, o_indexAddrS es_51, sz_5, o_sliceS sl_51, lenA_sl lk_26, loadA_eq ia_5, lenA_sl lk_34, o_indexAddrS es_34, loadA_eq ia_3, want_some q12_37g2, want_some q12_37g6, want_some q12_77g1, want_some q12_77g7, want_some q12_80g6, want_some q12_80g11, want_some q12_80g19, want_some q12_80g24, want_some q12_80g32, want_some q12_91g2, want_some q12_94g3, want_some q12_94g10, want_some q12_98g4, want_some q12_98g10, g1, ha, r1, r2, r3, r4, r5, r6, lp, x1, x2, x3, x4, d1, be_eq, be_ne]
end
end Go.Proofs.Ytjimphlkhjmaiaa.sw
namespace Go.Proofs.Ytjimphlkhjmaiaa.sw
open Go.GE
set_option linter.unusedVariables false
set_option linter.unusedSimpArgs false
set_option linter.unusedSectionVars false
set_option maxRecDepth 100000
set_option maxHeartbeats 2000000
attribute [local simp] runOps_nil runOps_cons runOpsF_nil runOpsF_cons fstS_some fstF_some opStep_eq want_none oStep_true oStep_false fin_pure fin_read fin_alloc fin_write storeB wrN cellV addWr o_move o_assign o_pick o_alloc o_box o_load o_store o_nilCheck o_bin o_un o_extract o_callV o_callB o_callI callV_f callV_y callV_fc o_makeFunc partsA Instr.fill builtin_len builtin_max2 bin_add bin_sub bin_mul bin_quo bin_rem bin_lss bin_leq bin_gtr bin_geq bin_eql bin_neq un_neg un_not bin_shr bin_shl wrap_u64_id opd opds optAll putO nbeq nblt constOk isC ops sub cl cr co bodyOf thenS_normal thenS_ret thenS_exit thenS_goto afterN_normal afterN_ret afterN_exit afterN_goto condS_true condS_false blockS_normal blockS_ret blockS_exit blockS_goto headS normS normK_eq fixS_nil fixS_cons fix1 fixV emptyB keepO_nil keepO_cons roundC_normal roundC_exit roundC_ret roundC_goto sweep_eq sweepD rnm pickR pickW rootsB ptrT renT ptrFn renFn ptrB_flat ptrB_non renB_flat renB_non plainS_some drawS_some fpsOk disj unord range' dropTo enumT undef wrap_i64_id Value.cells mkCells ptrTo scal cellsAt rdN endS_ret resultsA Option.bind_some tupV finish reachN dep ptrL_eq ptrL renL_eq renL ptrV_bool ptrV_int ptrV_string ptrV_nilFunc ptrV_nilIface ptrV_nilPtr ptrV_ptr ptrV_nilSl ptrV_sl ptrV_iface ptrV_agg ptrV_tuple ptrV_func renV_bool renV_int renV_string renV_nilFunc renV_nilIface renV_nilPtr renV_ptr renV_nilSl renV_sl renV_iface renV_agg renV_tuple renV_func gotoS_goto gotoS_normal gotoS_exit gotoS_ret skip_seq sliceE bnd bndHi intOf optOpd keepT_nil keepT_cons keepC_t keepC_f lk_nil lk_cons lkC_t lkC_f has_nil has_cons hasC_t hasC_f rep_nil rep_cons repC_t repC_f put_eq putC_t putC_f mem_nil mem_cons memC_t memC_f idx_nil idx_cons idxC_t idxC_f reach_nil reachP_cons reachQ_t reachQ_f ptrB_dead renB_dead ins_eq
attribute [local simp] n12_1s n12_3s n12_5s n12_7s n12_9s n12_12s n12_16s n12_19s n12_20s n12_18s n12_24s n12_26s n12_28s n12_29s n12_27s n12_25s n12_23s n12_22s n12_30s n12_21s n12_17s n12_15s n12_14s n12_14g n12_13s n12_11s n12_32s n12_34s n12_37s n12_40s n12_41s n12_39s n12_42s n12_38s n12_36s n12_44s n12_47s n12_51s n12_54s n12_55s n12_53s n12_59s n12_61s n12_64s n12_68s n12_71s n12_72s n12_70s n12_76s n12_77s n12_75s n12_74s n12_78s n12_73s n12_69s n12_67s n12_66s n12_66g n12_65s n12_63s n12_80s n12_83s n12_84s n12_82s n12_85s n12_81s n12_79s n12_62s n12_60s n12_58s n12_57s n12_86s n12_56s n12_52s n12_50s n12_49s n12_49g n12_48s n12_46s n12_88s n12_91s n12_94s n12_95s n12_93s n12_96s n12_92s n12_90s n12_98s n12_99s n12_97s n12_89s n12_87s n12_45s n12_43s n12_35s n12_33s n12_31s n12_10s n12_8s n12_6s n12_4s n12_2s n12_0s Try.f12
theorem c12 (B C x c U : Nat) (hB : B < 2 ^ 64) (hC : C < 256) (hx : x < 256) (hc : c < 256) (hU : U < 2 ^ 64) : LL.run 12 [lpV B C, uv x, uv c, .int .u64 (U : Int)] [] = some ⟨.bool true, [], []⟩ := by
  have c1 := fun h => k33 B C hB hC h
  obtain ⟨l, hl⟩ : ∃ l, bitL B (1 + C % 64) = l := ⟨_, rfl⟩
  have hln : l.length = 1 + C % 64 := by rw [← hl, bitL_len]
  have h1 : 1 ≤ l.length := by omega
  have l64 : l.length ≤ 64 := by omega
  rw [hl] at c1
  clear hl hln
  obtain ⟨n, hn⟩ : ∃ n, l.length = n := ⟨_, rfl⟩
  obtain ⟨a, ha'⟩ : ∃ a, x % n = a := ⟨_, rfl⟩
  have ha : a < n := by rw [← ha']; exact Nat.mod_lt _ (by omega)
  obtain ⟨r, hr⟩ : ∃ r, c % 64 = r := ⟨_, rfl⟩
  have hr64 : r < 64 := by omega
  obtain ⟨k, hk⟩ : ∃ k, 1 + r = k := ⟨_, rfl⟩
  have hk1 : 1 ≤ k := by omega
  have h64 : k ≤ 64 := by omega
  have w0 : IntKind.i64.wrap (x : Int) = x := wrap_nn (by omega)
  have tm : Int.tmod (x : Int) (n : Int) = (a : Int) := by rw [← ha']; rfl
  have wa : IntKind.i64.wrap (a : Int) = a := wrap_nn (by omega)
  have w1 : IntKind.i64.wrap (c : Int) = c := wrap_nn (by omega)
  have tc : Int.tmod (c : Int) 64 = (r : Int) := by rw [← hr]; rfl
  have w2 : IntKind.i64.wrap (1 + (r : Int)) = (k : Int) := by rw [wrap_i64_id (by omega) (by omega)]; omega
  have w3 : IntKind.i64.wrap ((k : Int) + 1) = (k : Int) + 1 := wrap_i64_id (by omega) (by omega)
  obtain ⟨m, hm⟩ : ∃ m, (k + 1) / 2 = m := ⟨_, rfl⟩
  have tk : Int.tdiv ((k : Int) + 1) 2 = (m : Int) := by rw [← hm]; rfl
  have wm : IntKind.i64.wrap (m : Int) = m := wrap_nn (by omega)
  have hm1 : 1 ≤ m := by omega
  have hmk : m ≤ k := by omega
  have a2 := fun h => @lenA_st h (markU l)
  rw [mark_len, hn] at a2
  have z0 : ¬ ((n : Int) = 0) := by omega
  have z1 : ¬ n = 0 := by omega
  have x4 := fun h => k37 l k h1 l64 h64 h
  rw [hn] at x4
  -- what is seen
  obtain ⟨s0, hs0⟩ : ∃ s0, (winB l k a).map some = s0 := ⟨_, rfl⟩
  have hw : (winB l k a).length = k := win_len (by omega)
  have ls0 : s0.length = k := by rw [← hs0, List.length_map, hw]
  have r2 : (rowsV (winsL l k))[a]? = some (skV s0) := by
    rw [rowsV_get (w := winB l k a) (by simp [winsL, hn, ha]), ← hs0, skV, see_all]
  have rl : (rowsV (winsL l k)).length = n := by rw [rowsV_len]; simp [winsL, hn]
  have r4 : a < (rowsV (winsL l k)).length := by omega
  have r6 : (rowsV (winsL l k))[a]'r4 = skV s0 := by have := List.getElem?_eq_getElem r4; rw [r2] at this; exact (Option.some.inj this).symm
  obtain ⟨s1, hs1⟩ : ∃ s1, mskL U k 0 s0 = s1 := ⟨_, rfl⟩
  have ls1 : s1.length = k := by rw [← hs1, msk_len, ls0]
  have q1 := fun (h : List Blk) (b : Nat) (hb : h[b]? = some (.cells (skC s0) 1 true true)) => conS_see (m := k) hb hk1 (by omega)
  have q2 := fun (h : List Blk) (b : Nat) (hb : h[b]? = some (.cells (skC s1) 1 true true)) => conS_see (m := k) hb hk1 (by omega)
  have q3 := fun (h : List Blk) (b : Nat) (hb : h[b]? = some (.cells (skC s1) 1 true true)) => conS_see (m := m) hb hm1 (by omega)
  rw [List.take_of_length_le (by omega)] at q1 q2
  have v1 : ∀ h, callH LL 24 [rwV l, skV s0] h = some ⟨.tuple #[sl h.length 0 (whL l s0).length (whL l s0).length, iv 0], h ++ [nB (whL l s0)], [], []⟩ := fun h => k24 l s0 k h1 l64 h64 ls0 hk1 h
  have v2 : ∀ h, callH LL 24 [rwV l, skV s1] h = some ⟨.tuple #[sl h.length 0 (whL l s1).length (whL l s1).length, iv 0], h ++ [nB (whL l s1)], [], []⟩ := fun h => k24 l s1 k h1 l64 h64 ls1 hk1 h
  have v3 : ∀ h, callH LL 24 [rwV l, skV (s1.take m)] h = some ⟨.tuple #[sl h.length 0 (whL l (s1.take m)).length (whL l (s1.take m)).length, iv 0], h ++ [nB (whL l (s1.take m))], [], []⟩ := fun h => k24 l (s1.take m) m h1 l64 (by omega) (by rw [List.length_take]; omega) hm1 h
  have nl := fun s => out_len l s l.length 0 []
  simp only [List.length_nil, Nat.zero_add] at nl
  have n1 : (whL l s0).length ≤ 64 := Nat.le_trans (nl s0) l64
  have n2 : (whL l s1).length ≤ 64 := Nat.le_trans (nl s1) l64
  have n3 : (whL l (s1.take m)).length ≤ 64 := Nat.le_trans (nl _) l64
  clear nl
  have lc := l12c l a k n s1 (whL l s0) (whL l s1) (whL l (s1.take m)) _ _ _ h1 l64 hk1 h64 ls1 hn ha rfl rfl rfl n1 n2 n3
    (fun i hi => by
      have e : decide (i ∈ whL l s0) = fitW l s0 i := by rw [Bool.eq_iff_iff, decide_eq_true_iff, wh_mem]; exact ⟨fun h => h.2, fun h => ⟨by omega, h⟩⟩
      rw [e, ← hs0, fit_full (by omega) (by omega)])
    (fun i hi => by rw [Bool.eq_iff_iff, decide_eq_true_iff, wh_mem]; exact ⟨fun h => h.2, fun h => ⟨by omega, h⟩⟩)
    (fun i hi h => by
      rw [wh_mem] at h ⊢
      exact ⟨h.1, by rw [← hs1]; exact fit_msk h.1 h.2⟩)
    (fun i hi h => by
      rw [wh_mem] at h ⊢
      exact ⟨h.1, fit_take h.1 h.2⟩) n 0 (by omega)
  have la := l12a l U a k (whL l s0) (whL l s0).length h64 hU k 0 s0 (by omega) ls0
  rw [hs1] at la
  have ma1 : decide (a ∈ whL l s0) = true := decide_eq_true (wh_mem.2 ⟨by omega, by rw [← hs0, fit_full (by omega) (by omega)]; simp⟩)
  have ma2 : decide (a ∈ whL l s1) = true := decide_eq_true (wh_mem.2 ⟨by omega, by rw [← hs1]; exact fit_msk (by omega) (by rw [← hs0, fit_full (by omega) (by omega)]; simp)⟩)
  have y1 := @k39 a (whL l s0) _ rfl n1 [nB (whL l s0), nB (whL l s1)] 0 rfl
  have y2 := @k39 a (whL l s1) _ rfl n2 [nB (whL l s0), nB (whL l s1)] 1 rfl
  rw [ma1] at y1
  rw [ma2] at y2
  have c19 := fun h => k19 l h1 l64 h
  have sz : (⟨(seeU s0).toArray⟩ : ByteArray).size = k := by rw [st_size, see_len, ls0]
  have ce := @see_cells s0
  simp only [Int.natCast_zero] at la lc
  have hone : (∃ j, clrV l = (j, 0) ∧ j ≤ k) → whL l s0 = [a] := by
    rintro ⟨j, hj, hjk⟩
    rcases clr_ok l with ⟨e, _⟩ | ⟨j', e, _, hd, _⟩
    · rw [e] at hj; cases hj
    · rw [e] at hj; cases hj
      rw [← hs0]
      exact wh_one (by omega) (D_more hjk (difB_iff.1 hd))
  have hcl : clrV l = (0, 14) ∨ ∃ j, clrV l = (j, 0) := by
    rcases clr_ok l with ⟨e, _⟩ | ⟨j', e, _⟩
    · exact .inl e
    · exact .inr ⟨_, e⟩
  clear ma1 ma2 n1 n2 n3 rl hs0 hs1 ls0 ls1 hw ha' hk hm hr
  generalize whL l (s1.take m) = o3 at *
  generalize whL l s1 = o2 at *
  generalize whL l s0 = o1 at *
  unfold skV nB at *
  generalize seeU (s1.take m) = bu3 at *
  unfold rwV st at *
  generalize (⟨(markU l).toArray⟩ : ByteArray) = s at *
  generalize (⟨(seeU s0).toArray⟩ : ByteArray) = u0 at *
  generalize (⟨(seeU s1).toArray⟩ : ByteArray) = u1 at *
  generalize (⟨bu3.toArray⟩ : ByteArray) = u3 at *
  generalize skC s0 = F0 at *
  generalize skC s1 = F1 at *
  generalize rowsV (winsL l k) = R at *
  generalize nvs o3 = V3 at *
  generalize nvs o2 = V2 at *
  refine L_run rfl ?_
  rw [run12 _ _ _ (by simp)]
  rcases hcl with e | ⟨j, e⟩
  · rw [e] at c19
    simp only [Int.natCast_zero, Int.cast_ofNat_Int] at c19
    generalize nvs o1 = V1 at *
    clear hone e
    simp (maxSteps := 1000000) (disch := first | omega | decide | assumption | simp [scal]) [loadA_eq ia_46, o_convI cv_5_3, o_indexAddrS es_26, loadA_eq ia_9, lenA_sl lk_51, o_indexAddrS es_51, sz_5, o_sliceS sl_51, lenA_sl lk_26, loadA_eq ia_5, lenA_sl lk_34, o_indexAddrS es_34, loadA_eq ia_3, want_some q12_37g2, want_some q12_37g6, want_some q12_77g1, want_some q12_77g7, want_some q12_80g6, want_some q12_80g11, want_some q12_80g19, want_some q12_80g24, want_some q12_80g32, want_some q12_91g2, want_some q12_94g3, want_some q12_94g10, want_some q12_98g4, want_some q12_98g10, siter_ptr, siter_ren, o_rangeT, c1, a2, w0, tm, wa, w1, tc, w2, w3, tk, wm, hmk, z0, z1, x4, ha, r2, r4, r6, o_bytT, allocR, ce, sz, o_conT, q1, q2, q3, v1, v2, v3, la, lc, c19, y1, y2, k14]
  · rw [e] at c19
    simp only [Int.natCast_zero, Int.cast_ofNat_Int] at c19
    by_cases hjk : j ≤ k
    · have ho := hone ⟨j, e, hjk⟩
      subst ho
      have hjk' : (j : Int) ≤ (k : Int) := by omega
      have nv : nvs [a] = [iv a] := rfl
      simp only [nv, List.length_cons, List.length_nil, Nat.zero_add] at *
      clear hone e
      simp (maxSteps := 1000000) (disch := first | omega | decide | assumption | simp [scal]) [loadA_eq ia_46, o_convI cv_5_3, o_indexAddrS es_26, loadA_eq ia_9, lenA_sl lk_51, o_indexAddrS es_51, sz_5, o_sliceS sl_51, lenA_sl lk_26, loadA_eq ia_5, lenA_sl lk_34, o_indexAddrS es_34, loadA_eq ia_3, want_some q12_37g2, want_some q12_37g6, want_some q12_77g1, want_some q12_77g7, want_some q12_80g6, want_some q12_80g11, want_some q12_80g19, want_some q12_80g24, want_some q12_80g32, want_some q12_91g2, want_some q12_94g3, want_some q12_94g10, want_some q12_98g4, want_some q12_98g10, siter_ptr, siter_ren, o_rangeT, c1, a2, w0, tm, wa, w1, tc, w2, w3, tk, wm, hmk, z0, z1, x4, ha, r2, r4, r6, o_bytT, allocR, ce, sz, o_conT, q1, q2, q3, v1, v2, v3, la, lc, c19, y1, y2, k14, hjk, hjk']
    · have hjk' : ¬ (j : Int) ≤ (k : Int) := by omega
      generalize nvs o1 = V1 at *
      clear hone e
      simp (maxSteps := 1000000) (disch := first | omega | decide | assumption | simp [scal]) [loadA_eq ia_46, o_convI cv_5_3, o_indexAddrS es_26, loadA_eq ia_9, lenA_sl lk_51, o_indexAddrS es_51, sz_5, o_sliceS sl_51, lenA_sl lk_26, loadA_eq ia_5, lenA_sl lk_34, o_indexAddrS es_34, loadA_eq ia_3, want_some q12_37g2, want_some q12_37g6, want_some q12_77g1, want_some q12_77g7, want_some q12_80g6, want_some q12_80g11, want_some q12_80g19, want_some q12_80g24, want_some q12_80g32, want_some q12_91g2, want_some q12_94g3, want_some q12_94g10, want_some q12_98g4, want_some q12_98g10, siter_ptr, siter_ren, o_rangeT, c1, a2, w0, tm, wa, w1, tc, w2, w3, tk, wm, hmk, z0, z1, x4, ha, r2, r4, r6, o_bytT, allocR, ce, sz, o_conT, q1, q2, q3, v1, v2, v3, la, lc, c19, y1, y2, k14, hjk, hjk']
end Go.Proofs.Ytjimphlkhjmaiaa.sw
namespace Go.Proofs.Ytjimphlkhjmaiaa.sw
open Go.GE
set_option linter.unusedVariables false
set_option linter.unusedSimpArgs false
set_option linter.unusedSectionVars false
section
open Go.ChangeShapes Go.WideShapes Go.RowKit
variable {H : Type} {enc : TypeId × Value → H} {W : World} {base b0 : Nat} {v : Value} {d : DataW H} {p : List MemPlace}
theorem open_u64 (hv : Value.okWide Try.prog W .any b0 44 v) (hd : DataW.Trod enc Try.prog W base (fun _ => true) true 44 v d p) : ∃ n : Nat, v = .int .u64 (n : Int) ∧ n < 2 ^ 64 := by
  obtain ⟨y, rfl, _, _, h⟩ := open_int (show Try.prog.underlying 44 = some (.int .u64) from by kernel_rfl) hv hd
  obtain ⟨n, rfl, hn⟩ := nat_of (b := 18446744073709551615) (u64_wf h)
  exact ⟨n, rfl, by omega⟩
end
end Go.Proofs.Ytjimphlkhjmaiaa.sw
