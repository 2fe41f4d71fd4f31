/-
  GE, part 40: arrays of integers as they are handed over; small integers as natural numbers.
-/
import Derived.Test.YtkmompbfcgjgmaaE39
set_option autoImplicit false
set_option linter.unusedVariables false
set_option linter.unusedSimpArgs false
namespace Go.GE
open Go.ChangeShapes Go.WideShapes Go.RowKit
variable {P : Program}
theorem VRL_ints {m : Mp} : ∀ {ks : List IntKind} {zs : List Int}, VRL m (ints ks zs) (ints ks zs)
  | [], _ => by simp [ints]; exact .nil
  | _ :: _, [] => by simp [ints]; exact .nil
  | k :: ks, z :: zs => .cons (.int k z) (VRL_ints (ks := ks) (zs := zs))
section
variable {H : Type} {enc : TypeId × Value → H} {w : World} {base : Nat} {spare : Nat → Bool} {held : Bool}
theorem open_array {t e : TypeId} {n : Nat} {ks : List IntKind} {r : Reach} {b0 d : Nat} {v : Value} {x : DataW H} {p : List MemPlace} (ht : P.underlying t = some (.array n e)) (hk : kindsT P d t = some ks)
    (hv : Value.okWide P w r b0 t v) (h : DataW.Trod enc P w base spare held t v x p) : ∃ zs, v = .agg (ints ks zs).toArray ∧ wfs ks zs := by
  simp only [Value.okWide, ht] at hv
  obtain ⟨cs, rfl, _, _⟩ := hv
  obtain ⟨fuel, hf⟩ := h
  obtain ⟨zs, e, hw⟩ := open_flat d t ks fuel _ _ hk hf
  refine ⟨zs, ?_, hw⟩
  rw [← e]
  rfl
end
theorem u8_wf {z : Int} (h : (Lit.int .u8 z).wf = true) : 0 ≤ z ∧ z ≤ 255 := by simpa [Lit.wf, IntKind.min, IntKind.max, IntKind.signed, IntKind.bits] using h
theorem u16_wf {z : Int} (h : (Lit.int .u16 z).wf = true) : 0 ≤ z ∧ z ≤ 65535 := by simpa [Lit.wf, IntKind.min, IntKind.max, IntKind.signed, IntKind.bits] using h
theorem i8_wf {z : Int} (h : (Lit.int .i8 z).wf = true) : -128 ≤ z ∧ z ≤ 127 := by simpa [Lit.wf, IntKind.min, IntKind.max, IntKind.signed, IntKind.bits] using h
theorem nat_of {z : Int} {b : Nat} (h : 0 ≤ z ∧ z ≤ (b : Int)) : ∃ n : Nat, z = (n : Int) ∧ n < b + 1 := ⟨z.toNat, by omega, by omega⟩
/-- a list of bytes: natural numbers -/
theorem wfs_get {k : IntKind} {n : Nat} {zs : List Int} (h : wfs (List.replicate n k) zs) {z : Int} (hz : z ∈ zs) : (Lit.int k z).wf = true := by
  obtain ⟨i, hi, rfl⟩ := List.getElem_of_mem hz
  have hl := h.1
  rw [List.length_replicate] at hl
  exact h.2 i k _ (by rw [List.getElem?_replicate, if_pos (by omega)]) (List.getElem?_eq_getElem hi)
/-! ### the walk over ids, a step at a time (no proof by rfl: else the kernel runs the walk again and again) -/
theorem reachP_cons {h : List Blk} {base n b : Nat} {r acc : List Nat} : reach h base (n + 1) (b :: r) acc = reachC (Nat.blt b base || mem acc b) h base n b r acc := by cases n <;> rfl
theorem reachQ_t {h : List Blk} {base n b : Nat} {r acc : List Nat} : reachC true h base n b r acc = reach h base n r acc := by cases n <;> rfl
theorem reachQ_f {h : List Blk} {base n b : Nat} {r acc : List Nat} : reachC false h base n b r acc = reach h base n (rootsB h b ++ r) (acc ++ [b]) := by cases n <;> rfl
theorem ptrB_dead : ptrB .dead = [] := rfl
theorem renB_dead {f : Nat → Option Nat} : renB f .dead = some .dead := rfl
theorem ins_eq {l : List Nat} {n : Nat} : ins l n = cond (mem l n) l (l ++ [n]) := rfl
end Go.GE
