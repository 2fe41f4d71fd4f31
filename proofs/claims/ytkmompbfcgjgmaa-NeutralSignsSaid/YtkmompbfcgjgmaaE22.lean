/-
  GE, part 22: small facts for runs on values that are not known.
-/
import Derived.Test.YtkmompbfcgjgmaaE21
import Derived.Laws.BitsLemmas
set_option autoImplicit false
set_option linter.unusedVariables false
set_option linter.unusedSimpArgs false
namespace Go.GE
variable {P : Program}
theorem nbeq (a b : Nat) : Nat.beq a b = decide (a = b) := by cases h : Nat.beq a b <;> simp_all [GE.beq_false]
theorem nblt (a b : Nat) : Nat.blt a b = decide (a < b) := by cases h : Nat.blt a b <;> simp_all [GE.blt_false]
theorem pureOf_pure (v : Value) : pureOf (pure v) = some v := rfl
theorem pureOf_pure' (v : Value) : pureOf (Sem.pure v) = some v := rfl
theorem wrap_i64_id {n : Int} (h1 : -9223372036854775808 ≤ n) (h2 : n < 9223372036854775808) : IntKind.i64.wrap n = n := by rw [IntKind.wrap_i64]; omega
/-- one step up, with the table -/
def stepT (P : Program) (T : Tab) (E : Ev) : Ev := withT T (Ev.step P E)
theorem stepT_run {T : Tab} {E : Ev} {f : FuncId} {args : List Value} {h : List Blk} (hT : T f args h = none) : (stepT P T E).run f args h = runB P E f args h := by
  simp only [stepT, withT, hT]; rfl
theorem tabL_other {e : Ent} {f : FuncId} {args : List Value} {h : List Blk} (hf : e.f ≠ f) : tabL [e] f args h = none := by
  simp [tabL, tabR, GE.beq_false.2 hf]
theorem evT_succ (T : Tab) (n : Nat) : evT P T (n + 1) = stepT P T (evT P T n) := rfl
/-- from a contract's step to the contract, at every fuel from k on -/
theorem every {T : Tab} {C : Ev → Prop} {k : Nat} (h : ∀ n, k ≤ n → C (stepT P T (evT P T n))) : ∀ n, k + 1 ≤ n → C (evT P T n) := by
  intro n hn
  obtain ⟨m, rfl⟩ : ∃ m, n = m + 1 := ⟨n - 1, by omega⟩
  exact h m (by omega)
/-! ### calls on plain values -/
def plain : Value → Bool
  | .tuple cs => cs.toList.all scal
  | .agg cs => cs.toList.all scal
  | v => scal v
theorem renV_scal {f : Nat → Option Nat} {d : Nat} {v : Value} (h : scal v = true) : renV f (d + 1) v = some v := by
  cases v <;> simp [scal] at h <;> rfl
theorem optAll_scal {f : Nat → Option Nat} {d : Nat} : ∀ {l : List Value}, l.all scal = true → optAll (renV f (d + 1)) l = some l := by
  intro l
  induction l with
  | nil => intro _; rfl
  | cons v l ih =>
    intro h
    simp only [List.all_cons, Bool.and_eq_true] at h
    simp [optAll, renV_scal h.1, ih h.2]
theorem renV_plain {f : Nat → Option Nat} {d : Nat} {v : Value} (h : plain v = true) : renV f (d + 2) v = some v := by
  cases v with
  | tuple cs =>
    have h' : cs.toList.all scal = true := h
    show (optAll (renV f (d + 1)) cs.toList).map _ = _
    rw [optAll_scal h']; simp
  | agg cs =>
    have h' : cs.toList.all scal = true := h
    show (optAll (renV f (d + 1)) cs.toList).map _ = _
    rw [optAll_scal h']; simp
  | _ => exact renV_scal (d := d + 1) h
theorem mergeB_plain {h : List Blk} {v : Value} (hv : plain v = true) : mergeB h [] ⟨v, [], []⟩ = some ⟨v, h, [], []⟩ := by
  simp [mergeB, renV_plain (d := 4) hv, dep, optAll]
theorem ptrV_scal {d : Nat} {l : List Value} (h : l.all scal = true) : l.flatMap (ptrV d) = [] := by
  induction l with
  | nil => rfl
  | cons v l ih =>
    simp only [List.all_cons, Bool.and_eq_true] at h
    simp only [List.flatMap_cons, ih h.2, List.append_nil]
    cases d with
    | zero => rfl
    | succ d => cases v <;> simp [scal] at h <;> rfl
theorem callH_scal {E : Ev} {f : FuncId} {args : List Value} {h : List Blk} (ha : args.all scal = true) : callH0 E f args h = (match E.run f args [] with | some rr => mergeB h [] rr | none => none) := by
  unfold callH0
  simp only [ptrV_scal ha]
  have hr : reach h 0 reachN [] [] = [] := rfl
  simp only [hr, optAll_scal (d := 5) ha, dep, optAll]
  cases E.run f args [] <;> rfl
theorem mergeB_bool {h : List Blk} {b : Bool} : mergeB h [] ⟨.bool b, [], []⟩ = some ⟨.bool b, h, [], []⟩ := mergeB_plain rfl
theorem mergeB_int {h : List Blk} {k : IntKind} {n : Int} : mergeB h [] ⟨.int k n, [], []⟩ = some ⟨.int k n, h, [], []⟩ := mergeB_plain rfl
theorem mergeB_string {h : List Blk} {s : ByteArray} : mergeB h [] ⟨.string s, [], []⟩ = some ⟨.string s, h, [], []⟩ := mergeB_plain rfl
theorem mergeB_tuple {h : List Blk} {cs : Array Value} (hc : cs.toList.all scal = true) : mergeB h [] ⟨.tuple cs, [], []⟩ = some ⟨.tuple cs, h, [], []⟩ := mergeB_plain hc
theorem mergeB_agg {h : List Blk} {cs : Array Value} (hc : cs.toList.all scal = true) : mergeB h [] ⟨.agg cs, [], []⟩ = some ⟨.agg cs, h, [], []⟩ := mergeB_plain hc
theorem ibeq (a b : Int) : (a == b) = decide (a = b) := by
  by_cases h : a = b <;> simp [h]
end Go.GE
