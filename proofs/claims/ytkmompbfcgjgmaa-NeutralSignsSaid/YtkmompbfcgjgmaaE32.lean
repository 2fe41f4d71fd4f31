/-
  GE, part 32: interfaces, elements of array values, as rewriting rules; blocks that hold no ids.
-/
import Derived.Test.YtkmompbfcgjgmaaE31
set_option autoImplicit false
set_option linter.unusedVariables false
set_option linter.unusedSimpArgs false
namespace Go.GE
variable {P : Program} {E : Ev} {σ : Tm} {h : List Blk} {d : Option Nat} {ty : TypeId} {pos : String} {af : Array Edge} {g : Option (Nat × Bool)}
def notI (P : Program) (t : TypeId) : Bool := match P.underlying t with
  | some (.interface _) => false
  | some _ => true
  | none => false
theorem o_mkI {t : TypeId} {x : Operand} (hn : notI P t = true) : aop P E σ h ⟨d, .makeInterface t x, ty, pos, af, g⟩ = (opd σ x).bind fun v => pureR h (.iface t v) := by
  unfold notI at hn
  simp only [aop]
  split at hn
  · cases hn
  · rename_i u hu e
    rw [e]
    cases opd σ x with
    | none => cases u <;> first | rfl | exact absurd rfl (hu _)
    | some v => cases u <;> first | rfl | exact absurd rfl (hu _)
  · cases hn
theorem o_tassert {x : Operand} {u t : TypeId} {z : Value} (hn : notI P t = true) (hz : zeroA P t = some z) : aop P E σ h ⟨d, .typeAssert x u t true, ty, pos, af, g⟩ = (match opd σ x with
    | some .nilIface => pureR h (.tuple #[z, .bool false])
    | some (.iface u v) => if u = t then pureR h (.tuple #[v, .bool true]) else pureR h (.tuple #[z, .bool false])
    | _ => none) := by
  unfold notI at hn
  simp only [aop, hz]
  split at hn
  · cases hn
  · rename_i w hu e
    rw [e]
    cases opd σ x with
    | none => cases w <;> first | rfl | exact absurd rfl (hu _)
    | some v => cases v <;> (cases w <;> first | rfl | exact absurd rfl (hu _))
  · cases hn
def arrK (P : Program) (t : TypeId) : Option (Nat × Nat × Bool) := match P.underlying t with
  | some (.array n e) => match P.underlying e, P.info? e with
    | some d, some i => match d with
      | .struct _ | .array _ _ => some (n, i.size, true)
      | _ => some (n, i.size, false)
    | _, _ => none
  | _ => none
theorem o_index {t : TypeId} {x i : Operand} {n s : Nat} {ag : Bool} (hk : arrK P t = some (n, s, ag)) : aop P E σ h ⟨d, .index t x i, ty, pos, af, g⟩ = (match opd σ x, opd σ i with
    | some (.agg cs), some (.int _ k) => if 0 ≤ k ∧ k < n then (cond ag (some (.agg (cs.extract (k.toNat * s) (k.toNat * s + s)))) (cs[k.toNat * s]?)).bind (pureR h) else none
    | _, _ => none) := by
  unfold arrK at hk
  split at hk
  · rename_i m e hu
    split at hk
    · rename_i dd ii h1 h2
      have hag : aggSize P e = some ii.size := by simp [aggSize, h2]
      simp only [aop, hu, hag]
      cases opd σ x with
      | none => cases opd σ i <;> cases dd <;> simp at hk <;> rfl
      | some v =>
        cases opd σ i with
        | none => cases v <;> rfl
        | some w =>
          cases v <;> cases w <;> first | rfl | (dsimp only; cases dd <;> simp at hk <;> (obtain ⟨rfl, rfl, rfl⟩ := hk; simp only [hag, partA, h1, h2, cond_true, cond_false]))
    · cases hk
  · cases hk
/-- cells that hold no ids -/
def noIds (cs : List Value) : Prop := ∀ f : Nat → Option Nat, renL f dep cs = some cs ∧ ptrL dep cs = []
theorem noIds_nil : noIds [] := fun f => ⟨rfl, rfl⟩
theorem noIds_cons {v : Value} {cs : List Value} (hv : ∀ f, renV f dep v = some v) (hp : ptrV dep v = []) (h : noIds cs) : noIds (v :: cs) := fun f => by
  obtain ⟨h1, h2⟩ := h f
  simp only [renL, ptrL, hv, h1, hp, h2, List.append_nil, and_self]
theorem noIds_of {cs : List Value} (h : ∀ v, v ∈ cs → (∀ f, renV f dep v = some v) ∧ ptrV dep v = []) : noIds cs := by
  induction cs with
  | nil => exact noIds_nil
  | cons v cs ih => exact noIds_cons (h v (by simp)).1 (h v (by simp)).2 (ih fun u hu => h u (by simp [hu]))
theorem noIds_ptrB {cs : List Value} (h : noIds cs) {e : Nat} {own : Bool} : ptrB (.cells cs e false own) = [] := by
  show cs.flatMap (ptrV dep) = []
  rw [ptrL_eq]; exact (h (fun _ => none)).2
theorem noIds_renB {cs : List Value} (h : noIds cs) {f : Nat → Option Nat} {e : Nat} {own : Bool} : renB f (.cells cs e false own) = some (.cells cs e false own) := by
  show (optAll (renV f dep) cs).map _ = _
  rw [renL_eq, (h f).1]; rfl
end Go.GE
