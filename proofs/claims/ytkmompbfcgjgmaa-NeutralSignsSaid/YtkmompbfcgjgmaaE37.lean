/-
  GE, part 37: calls that only read flat blocks, and calls that hand new flat blocks back.
-/
import Derived.Test.YtkmompbfcgjgmaaE36
set_option autoImplicit false
set_option linter.unusedVariables false
set_option linter.unusedSimpArgs false
namespace Go.GE
variable {P : Program} {E : Ev} {T : Tab}
abbrev iv (n : Int) : Value := .int .i64 n
theorem cast1 (i : Nat) : ((i + 1 : Nat) : Int) = (i : Int) + 1 := rfl
/-- a value without ids -/
def noId (v : Value) : Prop := (∀ f : Nat → Option Nat, renV f dep v = some v) ∧ ptrV dep v = []
/-- a block without ids -/
def noIdB (blk : Blk) : Prop := (∀ f : Nat → Option Nat, renB f blk = some blk) ∧ ptrB blk = []
theorem ptrB_flat {cs : List Value} {e : Nat} {own : Bool} : ptrB (.cells cs e true own) = [] := rfl
theorem ptrB_non {cs : List Value} {e : Nat} {own : Bool} : ptrB (.cells cs e false own) = ptrL dep cs := ptrL_eq
theorem renB_flat {f : Nat → Option Nat} {cs : List Value} {e : Nat} {own : Bool} : renB f (.cells cs e true own) = some (.cells cs e true own) := rfl
theorem renB_non {f : Nat → Option Nat} {cs : List Value} {e : Nat} {own : Bool} : renB f (.cells cs e false own) = (renL f dep cs).map fun l => .cells l e false own := by rw [← renL_eq]; rfl
theorem noIdB_flat {cs : List Value} {e : Nat} {own : Bool} : noIdB (.cells cs e true own) := ⟨fun _ => rfl, rfl⟩
theorem noIdB_cells {cs : List Value} {e : Nat} {own : Bool} (h : noIds cs) : noIdB (.cells cs e false own) := ⟨fun _ => noIds_renB h, noIds_ptrB h⟩
/-- the ids in arguments -/
theorem reach_two {h : List Blk} {b1 b2 : Nat} {k1 k2 : Blk} {k : Nat} (h1 : h[b1]? = some k1) (h2 : h[b2]? = some k2) (hne : b1 ≠ b2) (p1 : ptrB k1 = []) (p2 : ptrB k2 = []) (hk : 2 < k) : reach h 0 k [b1, b2] [] = [b1, b2] := by
  obtain ⟨k, rfl⟩ : ∃ j, k = j + 3 := ⟨k - 3, by omega⟩
  simp [reach, h1, h2, p1, p2, mem, nblt, nbeq, hne, hne.symm]
theorem callH_none {f : FuncId} {args : List Value} {v : Value} {h : List Blk} (hp : args.flatMap (ptrV dep) = []) (hr : ∀ g, optAll (renV g dep) args = some args) (he : E.run f args [] = some ⟨v, [], []⟩) (hv : ∀ g, renV g dep v = some v) (hk : idle E f args := by intro _; first | trivial | rfl) : callH E f args h = some ⟨v, h, [], []⟩ := by
  refine callH_of hk ?_ (by simp)
  unfold callH0
  rw [hp]
  simp [reach, reachN, hr, optAll, he, mergeB, hv]
theorem callH_1 {f : FuncId} {args args' : List Value} {v : Value} {h : List Blk} {b : Nat} {blk : Blk} (hp : args.flatMap (ptrV dep) = [b]) (hb : h[b]? = some blk) (hn : noIdB blk)
    (hr : optAll (renV (idx [b]) dep) args = some args') (he : E.run f args' [blk] = some ⟨v, [], []⟩) (hv : ∀ g, renV g dep v = some v) (hk : idle E f args := by intro _; first | trivial | rfl) : callH E f args h = some ⟨v, h, [b], []⟩ := by
  refine callH_of hk ?_ (by simpa using (List.getElem?_eq_some_iff.1 hb).1)
  unfold callH0
  rw [hp, reach_one hb hn.2 (by decide)]
  simp only [hr, optAll, hb, hn.1, he]
  simp [mergeB, hv, optAll]
theorem callH_2 {f : FuncId} {args args' : List Value} {v : Value} {h : List Blk} {b1 b2 : Nat} {k1 k2 : Blk} (hp : args.flatMap (ptrV dep) = [b1, b2]) (hb1 : h[b1]? = some k1) (hb2 : h[b2]? = some k2) (hne : b1 ≠ b2) (hn1 : noIdB k1) (hn2 : noIdB k2)
    (hr : optAll (renV (idx [b1, b2]) dep) args = some args') (he : E.run f args' [k1, k2] = some ⟨v, [], []⟩) (hv : ∀ g, renV g dep v = some v) (hk : idle E f args := by intro _; first | trivial | rfl) : callH E f args h = some ⟨v, h, [b1, b2], []⟩ := by
  refine callH_of hk ?_ (by have g1 := (List.getElem?_eq_some_iff.1 hb1).1; have g2 := (List.getElem?_eq_some_iff.1 hb2).1; intro b hb; simp at hb; rcases hb with rfl | rfl <;> assumption)
  unfold callH0
  rw [hp, reach_two hb1 hb2 hne hn1.2 hn2.2 (by decide)]
  simp only [hr, optAll, hb1, hb2, hn1.1, hn2.1, he]
  simp [mergeB, hv, optAll]
/-- what comes back: blocks without ids, put behind the caller's -/
theorem mergeB_new {h : List Blk} {ρ : List Nat} {v v' : Value} {news : List Blk} (hn : ∀ blk, blk ∈ news → noIdB blk) (hv : renV (fun b => cond (Nat.blt b ρ.length) (ρ[b]?) (some (h.length + (b - ρ.length)))) dep v = some v') :
    mergeB h ρ ⟨v, news, []⟩ = some ⟨v', h ++ news, ρ, []⟩ := by
  have e : ∀ (g : Nat → Option Nat) (l : List Blk), (∀ blk, blk ∈ l → noIdB blk) → optAll (renB g) l = some l := by
    intro g l
    induction l with
    | nil => intro _; rfl
    | cons a l ih => intro hl; simp only [optAll, (hl a (by simp)).1, ih fun b hb => hl b (by simp [hb])]
  simp only [mergeB, hv, e _ _ hn, optAll, List.foldl_nil, List.map_nil]
theorem callN_none {f : FuncId} {args : List Value} {v v' : Value} {news : List Blk} {h : List Blk} (hp : args.flatMap (ptrV dep) = []) (hr : ∀ g, optAll (renV g dep) args = some args) (he : E.run f args [] = some ⟨v, news, []⟩) (hn : ∀ blk, blk ∈ news → noIdB blk)
    (hv : renV (fun b => cond (Nat.blt b 0) none (some (h.length + (b - 0)))) dep v = some v') (hk : idle E f args := by intro _; first | trivial | rfl) : callH E f args h = some ⟨v', h ++ news, [], []⟩ := by
  refine callH_of hk ?_ (by simp)
  unfold callH0
  rw [hp]
  simp only [reach, reachN, hr, optAll, he]
  exact mergeB_new (ρ := []) hn hv
theorem callN_1 {f : FuncId} {args args' : List Value} {v v' : Value} {news : List Blk} {h : List Blk} {b : Nat} {blk : Blk} (hp : args.flatMap (ptrV dep) = [b]) (hb : h[b]? = some blk) (hB : noIdB blk)
    (hr : optAll (renV (idx [b]) dep) args = some args') (he : E.run f args' [blk] = some ⟨v, news, []⟩) (hn : ∀ blk, blk ∈ news → noIdB blk)
    (hv : renV (fun c => cond (Nat.blt c 1) ([b][c]?) (some (h.length + (c - 1)))) dep v = some v') (hk : idle E f args := by intro _; first | trivial | rfl) : callH E f args h = some ⟨v', h ++ news, [b], []⟩ := by
  refine callH_of hk ?_ (by simpa using (List.getElem?_eq_some_iff.1 hb).1)
  unfold callH0
  rw [hp, reach_one hb hB.2 (by decide)]
  simp only [hr, optAll, hb, hB.1, he]
  exact mergeB_new (ρ := [b]) hn hv
theorem callN_2 {f : FuncId} {args args' : List Value} {v v' : Value} {news : List Blk} {h : List Blk} {b1 b2 : Nat} {k1 k2 : Blk} (hp : args.flatMap (ptrV dep) = [b1, b2]) (hb1 : h[b1]? = some k1) (hb2 : h[b2]? = some k2) (hne : b1 ≠ b2) (hn1 : noIdB k1) (hn2 : noIdB k2)
    (hr : optAll (renV (idx [b1, b2]) dep) args = some args') (he : E.run f args' [k1, k2] = some ⟨v, news, []⟩) (hn : ∀ blk, blk ∈ news → noIdB blk)
    (hv : renV (fun c => cond (Nat.blt c 2) ([b1, b2][c]?) (some (h.length + (c - 2)))) dep v = some v') (hk : idle E f args := by intro _; first | trivial | rfl) : callH E f args h = some ⟨v', h ++ news, [b1, b2], []⟩ := by
  refine callH_of hk ?_ (by have g1 := (List.getElem?_eq_some_iff.1 hb1).1; have g2 := (List.getElem?_eq_some_iff.1 hb2).1; intro b hb; simp at hb; rcases hb with rfl | rfl <;> assumption)
  unfold callH0
  rw [hp, reach_two hb1 hb2 hne hn1.2 hn2.2 (by decide)]
  simp only [hr, optAll, hb1, hb2, hn1.1, hn2.1, he]
  exact mergeB_new (ρ := [b1, b2]) hn hv
theorem bin_shr {t : TypeId} {c : Bool} {k k' : IntKind} {a b : Int} (hb : 0 ≤ b) : binA P .shr t c (.int k a) (.int k' b) = some (.int k (a.fdiv (2 ^ (min b.toNat k.bits)))) := by
  simp [binA, Op.shift, pureOf, pure, show ¬ b < 0 by omega]
theorem bin_shl {t : TypeId} {c : Bool} {k k' : IntKind} {a b : Int} (hb : 0 ≤ b) : binA P .shl t c (.int k a) (.int k' b) = some (.int k (k.wrap (a * 2 ^ (min b.toNat k.bits)))) := by
  simp [binA, Op.shift, pureOf, pure, show ¬ b < 0 by omega]
theorem shr_one {a : Int} : a.fdiv (2 ^ (min (1 : Int).toNat IntKind.u64.bits)) = a / 2 := by
  rw [show (2 : Int) ^ (min (1 : Int).toNat IntKind.u64.bits) = 2 from rfl, Int.fdiv_eq_ediv_of_nonneg _ (by decide)]
theorem wrap_u64_id {n : Int} (h1 : 0 ≤ n) (h2 : n < 18446744073709551616) : IntKind.u64.wrap n = n := by simp [IntKind.wrap, IntKind.bits, IntKind.signed]; omega
/-! ### windows of a block's cells -/
/-- from 'off' on the cells are those of n elements of k cells each -/
def CellsAt (k : Nat) (f : Nat → Nat → Value) (cs : List Value) (off n : Nat) : Prop := ∀ i j, i < n → j < k → cs[off + i * k + j]? = some (f i j)
theorem flat_get {α : Type} {g : α → List Value} {k : Nat} (hg : ∀ a, (g a).length = k) : ∀ {l : List α} {i j : Nat} {a : α}, l[i]? = some a → j < k → (l.flatMap g)[i * k + j]? = (g a)[j]? := by
  intro l
  induction l with
  | nil => intro i j a h; simp at h
  | cons x l ih =>
    intro i j a h hj
    cases i with
    | zero =>
      simp at h; subst h
      rw [List.flatMap_cons, List.getElem?_append_left (by rw [hg]; omega)]
      simp
    | succ i =>
      rw [List.flatMap_cons, List.getElem?_append_right (by rw [hg, Nat.add_mul]; omega), hg]
      rw [show (i + 1) * k + j - k = i * k + j by rw [Nat.add_mul]; omega]
      exact ih (by simpa using h) hj
theorem flat_len {α : Type} {g : α → List Value} {k : Nat} (hg : ∀ a, (g a).length = k) : ∀ {l : List α}, (l.flatMap g).length = l.length * k := by
  intro l
  induction l with
  | nil => simp
  | cons x l ih => rw [List.flatMap_cons, List.length_append, hg, ih, List.length_cons, Nat.add_mul]; omega
end Go.GE
