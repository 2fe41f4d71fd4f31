/-
  GE, part 26: calls as rewriting rules.
-/
import Derived.Test.YtkmompbfcgjgmaaE25
set_option autoImplicit false
set_option linter.unusedVariables false
set_option linter.unusedSimpArgs false
namespace Go.GE
variable {P : Program} {E : Ev}
/-! ### ids and renamings, a constructor at a time -/
section
variable {f : Nat → Option Nat} {d : Nat}
def ptrL (d : Nat) : List Value → List Nat
  | [] => []
  | v :: r => ptrV d v ++ ptrL d r
theorem ptrL_eq {l : List Value} : l.flatMap (ptrV d) = ptrL d l := by
  induction l with
  | nil => rfl
  | cons v l ih => simp only [List.flatMap_cons, ptrL, ih]
def renL (f : Nat → Option Nat) (d : Nat) : List Value → Option (List Value)
  | [] => some []
  | v :: r => match renV f d v, renL f d r with
    | some v', some r' => some (v' :: r')
    | _, _ => none
theorem renL_eq {l : List Value} : optAll (renV f d) l = renL f d l := by
  induction l with
  | nil => rfl
  | cons v l ih => simp only [optAll, renL, ih]; cases renV f d v <;> cases renL f d l <;> rfl
theorem ptrV_bool {b : Bool} : ptrV (d + 1) (.bool b) = [] := rfl
theorem ptrV_int {k : IntKind} {n : Int} : ptrV (d + 1) (.int k n) = [] := rfl
theorem ptrV_string {s : ByteArray} : ptrV (d + 1) (.string s) = [] := rfl
theorem ptrV_nilFunc : ptrV (d + 1) .nilFunc = [] := rfl
theorem ptrV_nilIface : ptrV (d + 1) .nilIface = [] := rfl
theorem ptrV_nilPtr : ptrV (d + 1) (.pointer none) = [] := rfl
theorem ptrV_ptr {a : Addr} : ptrV (d + 1) (.pointer (some a)) = [a.block] := rfl
theorem ptrV_nilSl {l c : Nat} : ptrV (d + 1) (.slice none l c) = [] := rfl
theorem ptrV_sl {a : Addr} {l c : Nat} : ptrV (d + 1) (.slice (some a) l c) = [a.block] := rfl
theorem ptrV_iface {t : TypeId} {x : Value} : ptrV (d + 1) (.iface t x) = ptrV d x := rfl
theorem ptrV_agg {cs : Array Value} : ptrV (d + 1) (.agg cs) = ptrL d cs.toList := ptrL_eq
theorem ptrV_tuple {cs : Array Value} : ptrV (d + 1) (.tuple cs) = ptrL d cs.toList := ptrL_eq
theorem ptrV_func {fn : Fn} {xs ys : Array Value} : ptrV (d + 1) (.func fn xs ys) = ptrFn fn ++ (ptrL d xs.toList ++ ptrL d ys.toList) := by
  show ptrFn fn ++ (xs.toList.flatMap (ptrV d) ++ ys.toList.flatMap (ptrV d)) = _
  rw [ptrL_eq, ptrL_eq]
theorem renV_bool {b : Bool} : renV f (d + 1) (.bool b) = some (.bool b) := rfl
theorem renV_int {k : IntKind} {n : Int} : renV f (d + 1) (.int k n) = some (.int k n) := rfl
theorem renV_string {s : ByteArray} : renV f (d + 1) (.string s) = some (.string s) := rfl
theorem renV_nilFunc : renV f (d + 1) .nilFunc = some .nilFunc := rfl
theorem renV_nilIface : renV f (d + 1) .nilIface = some .nilIface := rfl
theorem renV_nilPtr : renV f (d + 1) (.pointer none) = some (.pointer none) := rfl
theorem renV_ptr {b o : Nat} : renV f (d + 1) (.pointer (some ⟨b, o, none⟩)) = (f b).map fun b' => .pointer (some ⟨b', o, none⟩) := rfl
theorem renV_nilSl : renV f (d + 1) (.slice none 0 0) = some (.slice none 0 0) := rfl
theorem renV_sl {b o l c : Nat} : renV f (d + 1) (.slice (some ⟨b, o, none⟩) l c) = (f b).map fun b' => .slice (some ⟨b', o, none⟩) l c := rfl
theorem renV_iface {t : TypeId} {x : Value} : renV f (d + 1) (.iface t x) = (renV f d x).map (.iface t) := rfl
theorem renV_agg {cs : Array Value} : renV f (d + 1) (.agg cs) = (renL f d cs.toList).map fun l => .agg l.toArray := by rw [← renL_eq]; rfl
theorem renV_tuple {cs : Array Value} : renV f (d + 1) (.tuple cs) = (renL f d cs.toList).map fun l => .tuple l.toArray := by rw [← renL_eq]; rfl
theorem renV_func {fn : Fn} {xs ys : Array Value} : renV f (d + 1) (.func fn xs ys) = (match renFn f fn, renL f d xs.toList, renL f d ys.toList with
      | some fn', some xs', some ys' => some (.func fn' xs'.toArray ys'.toArray)
      | _, _, _ => none) := by rw [← renL_eq, ← renL_eq]; rfl
end
theorem callV_f {h : List Blk} {g : FuncId} {args : List Value} : callV P E h (.func (.func g) #[] #[]) args = callH E g args h := by simp [callV]
/-- no slice among the arguments is told as an empty one -/
def idle (E : Ev) (f : FuncId) (args : List Value) : Prop := ∀ h : List Blk, match E.kp f 0 with | none => True | some K => fixA K.nils args h = (args, h)
theorem callH_of {f : FuncId} {args : List Value} {h h' : List Blk} {v : Value} {rd wr : List Nat} (hk : idle E f args) (h0 : callH0 E f args h = some ⟨v, h', rd, wr⟩) (hrd : ∀ b, b ∈ rd → b < h.length) : callH E f args h = some ⟨v, h', rd, wr⟩ := by
  have hk := hk h
  unfold callH
  split
  · exact h0
  · rename_i K e
    rw [e] at hk
    simp only at hk
    rw [hk, h0]
    have : rd.filter (fun b => Nat.blt b h.length) = rd := List.filter_eq_self.2 fun b hb => GE.blt_iff.2 (hrd b hb)
    simp [this]
/-- a nil slice among the arguments is told as an empty one -/
theorem callH_fix {f : FuncId} {args args' : List Value} {h h' : List Blk} {K : Kp} (hk : E.kp f 0 = some K) (hf : fixA K.nils args h = (args', h')) (hi : fixA K.nils args' h' = (args', h')) (hl : h.length ≤ h'.length) {v : Value} {r : List Blk} {rd wr : List Nat}
    (he : callH E f args' h' = some ⟨v, r, rd, wr⟩) : callH E f args h = some ⟨v, r, rd.filter fun b => Nat.blt b h.length, wr⟩ := by
  unfold callH at he ⊢
  rw [hk] at he ⊢
  simp only [hf, hi, Option.map_eq_some_iff] at he ⊢
  obtain ⟨r0, h1, h2⟩ := he
  refine ⟨r0, h1, ?_⟩
  obtain ⟨v0, hh0, rd0, wr0⟩ := r0
  cases h2
  simp only [List.filter_filter, OR.mk.injEq, true_and, and_true]
  apply List.filter_congr
  intro b hb
  cases hb1 : Nat.blt b h.length
  · rfl
  · have := GE.blt_iff.1 hb1
    rw [GE.blt_iff.2 (show b < h'.length by omega)]; rfl
/-- a call on plain values that answers a plain value -/
theorem callH_plain {f : FuncId} {args : List Value} {v : Value} {h : List Blk} (he : E.run f args [] = some ⟨v, [], []⟩) (ha : args.all scal = true) (hv : plain v = true) (hk : idle E f args := by intro _; first | trivial | rfl) : callH E f args h = some ⟨v, h, [], []⟩ := by
  refine callH_of hk ?_ (by simp)
  rw [callH_scal ha, he]; exact mergeB_plain hv
/-- ids of a renaming of one block -/
theorem mergeB_read {h : List Blk} {ρ : List Nat} {v : Value} (hv : plain v = true) : mergeB h ρ ⟨v, [], []⟩ = some ⟨v, h, ρ, []⟩ := by
  simp [mergeB, renV_plain (d := 4) hv, dep, optAll]
theorem mem_nil {n : Nat} : mem [] n = false := rfl
theorem reach_one {h : List Blk} {b : Nat} {blk : Blk} {k : Nat} (hb : h[b]? = some blk) (hp : ptrB blk = []) (hk : 1 < k) : reach h 0 k [b] [] = [b] := by
  obtain ⟨k, rfl⟩ : ∃ j, k = j + 2 := ⟨k - 2, by omega⟩
  simp [reach, hb, hp, mem, nblt]
/-- a call on one flat block that is only read -/
theorem callH_one {f : FuncId} {args args' : List Value} {v : Value} {h : List Blk} {b esz : Nat} {cs : List Value} {own : Bool} (hp : args.flatMap (ptrV dep) = [b]) (hb : h[b]? = some (.cells cs esz true own))
    (hr : optAll (renV (idx [b]) dep) args = some args') (he : E.run f args' [.cells cs esz true own] = some ⟨v, [], []⟩) (hv : plain v = true) (hk : idle E f args := by intro _; first | trivial | rfl) : callH E f args h = some ⟨v, h, [b], []⟩ := by
  refine callH_of hk ?_ (by simpa using (List.getElem?_eq_some_iff.1 hb).1)
  unfold callH0
  rw [hp, reach_one hb rfl (by decide)]
  simp only [hr, optAll, hb, renB, he]
  exact mergeB_read hv
end Go.GE
