/-
  GE, part 30: append as a rewriting rule; loops whose heap has grown; a body that ends without return.
-/
import Derived.Test.YtkmompbfcgjgmaaE29
set_option autoImplicit false
set_option linter.unusedVariables false
set_option linter.unusedSimpArgs false
namespace Go.GE
variable {P : Program}
def appN (h : List Blk) (sz by' : Nat) : Option (Nat × List Value × Bool × List Nat) → Option OR
  | some (n, new, fl, rd) => match n with
    | 0 => some ⟨.slice none 0 0, h, [], []⟩
    | k + 1 => if (k + 1) * by' ≤ 2 ^ 46 ∧ k + 1 ≤ 2 ^ 46 then some ⟨.slice (some ⟨h.length, 0, none⟩) (k + 1) (k + 1), h ++ [.cells new sz fl true], rd, []⟩ else none
  | none => none
def appS (h : List Blk) (sz by' b o l c : Nat) (blk : Option Blk) : Option (Nat × List Value × Bool × List Nat) → Option OR
  | some (n, new, fl, rd) => match n with
    | 0 => some ⟨.slice (some ⟨b, o, none⟩) l c, h, [], []⟩
    | k + 1 => match blk with
      | some (.cells cs es flat true) => match rdN cs o (l * sz) with
        | some old => if (l + (k + 1)) * by' ≤ 2 ^ 46 ∧ l + (k + 1) ≤ 2 ^ 46 ∧ es = sz ∧ new.all cellV = true then
            some ⟨.slice (some ⟨h.length, 0, none⟩) (l + (k + 1)) (l + (k + 1)), h.set b .dead ++ [.cells (old ++ new) sz (flat && fl) true], b :: rd, [b]⟩
          else none
        | none => none
      | _ => none
  | none => none
theorem append_nil {t : TypeId} {x : Value} {h : List Blk} {sz by' : Nat} (hk : apK P t = some (sz, by')) : appendA P h t (.slice none 0 0) x = appN h sz by' (srcCells h sz x) := by
  unfold apK at hk
  split at hk
  · rename_i e hu
    split at hk
    · rename_i i hi
      split at hk
      · rename_i hc
        cases hk
        unfold appendA
        simp only [hu, hi]
        rcases srcCells h i.size x with _ | ⟨n, new, fl, rd⟩
        · rfl
        · cases n with
          | zero => rfl
          | succ n => simp only [appN, hc.1, hc.2, ne_eq, not_false_eq_true, and_self, and_true]
      · cases hk
    · cases hk
  · cases hk
theorem append_some {t : TypeId} {x : Value} {h : List Blk} {sz by' b o l c : Nat} (hk : apK P t = some (sz, by')) : appendA P h t (.slice (some ⟨b, o, none⟩) l c) x = appS h sz by' b o l c h[b]? (srcCells h sz x) := by
  unfold apK at hk
  split at hk
  · rename_i e hu
    split at hk
    · rename_i i hi
      split at hk
      · rename_i hc
        cases hk
        unfold appendA
        simp only [hu, hi]
        rcases srcCells h i.size x with _ | ⟨n, new, fl, rd⟩
        · rfl
        · cases n with
          | zero => rfl
          | succ n =>
            simp only [appS]
            rcases h[b]? with _ | blk
            · rfl
            · cases blk with
              | cells cs es flat own =>
                cases own with
                | false => rfl
                | true =>
                  dsimp only
                  cases rdN cs o (l * i.size) with
                  | none => rfl
                  | some old => simp only [hc.1, hc.2, ne_eq, not_false_eq_true, true_and]
              | _ => rfl
      · cases hk
    · cases hk
  · cases hk
theorem rdN_all (cs : List Value) : ∀ (k o : Nat), o + k = cs.length → rdN cs o k = some (cs.drop o) := by
  intro k
  induction k with
  | zero => intro o h; simp [rdN, List.drop_eq_nil_of_le (show cs.length ≤ o by omega)]
  | succ k ih =>
    intro o h
    have h1 : o < cs.length := by omega
    simp only [rdN, List.getElem?_eq_getElem h1, ih (o + 1) (by omega)]
    rw [List.drop_eq_getElem_cons h1]
theorem loopS_grow {go : St → Res} {b : Nat} {st : St} {σ : Tm} {h : List Blk} {wr : List Nat} (hl : h.length ≠ st.h.length) : loopS go b (some (.normal, ⟨σ, h, wr⟩)) st = (match sweep b ⟨dropTo st.σ.length σ, h, wr⟩ with
    | some st'' => go st''
    | none => none) := by
  simp only [loopS, hl, if_false]
  rfl
theorem endS_normal {rs : List ResultVar} {base : Nat} {st : St} : endS P rs base (some (.normal, st)) = (match resultsA P rs st with
    | some vs => finish base (tupV vs) st.h st.wr
    | none => none) := rfl
end Go.GE
