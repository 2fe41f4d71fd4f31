/-
  GE, part 21: a table of closed calls.
-/
import Derived.Test.YtkmompbfcgjgmaaE20
set_option autoImplicit false
set_option linter.unusedVariables false
set_option linter.unusedSimpArgs false
namespace Go.GE
variable {P : Program}

def eqL {α : Type} (f : α → α → Bool) : List α → List α → Bool
  | [], [] => true
  | a :: r, b :: s => cond (f a b) (eqL f r s) false
  | _, _ => false
def eqV : Nat → Value → Value → Bool
  | 0, _, _ => false
  | d + 1, x, y => match x, y with
    | .bool a, .bool b => a == b
    | .int k a, .int k' b => decide (k = k') && decide (a = b)
    | .string a, .string b => decide (a = b)
    | .nilFunc, .nilFunc => true
    | .nilIface, .nilIface => true
    | .pointer none, .pointer none => true
    | .map none, .map none => true
    | .slice none 0 0, .slice none 0 0 => true
    | .pointer (some ⟨b, o, none⟩), .pointer (some ⟨b', o', none⟩) => Nat.beq b b' && Nat.beq o o'
    | .slice (some ⟨b, o, none⟩) l c, .slice (some ⟨b', o', none⟩) l' c' => Nat.beq b b' && Nat.beq o o' && Nat.beq l l' && Nat.beq c c'
    | .agg xs, .agg ys => eqL (eqV d) xs.toList ys.toList
    | .iface t a, .iface u b => Nat.beq t u && eqV d a b
    | _, _ => false
theorem eqL_spec {α : Type} {f : α → α → Bool} : ∀ {l m : List α}, (∀ a b, f a b = true → a = b) → eqL f l m = true → l = m := by
  intro l
  induction l with
  | nil => intro m hf h; cases m with
    | nil => rfl
    | cons => cases h
  | cons a l ih =>
    intro m hf h
    cases m with
    | nil => cases h
    | cons b m =>
      simp only [eqL] at h
      cases hab : f a b with
      | false => rw [hab] at h; cases h
      | true => rw [hab] at h; rw [hf a b hab, ih hf h]
theorem eqV_spec : ∀ (d : Nat) (x y : Value), eqV d x y = true → x = y := by
  intro d
  induction d with
  | zero => intro x y h; cases h
  | succ d ih =>
    intro x y h
    unfold eqV at h
    split at h
    · simpa using h
    · simp only [Bool.and_eq_true, decide_eq_true_eq] at h; rw [h.1, h.2]
    · simp only [decide_eq_true_eq] at h; rw [h]
    · rfl
    · rfl
    · rfl
    · rfl
    · rfl
    · simp only [Bool.and_eq_true, beq_iff] at h; rw [h.1, h.2]
    · simp only [Bool.and_eq_true, beq_iff] at h; rw [h.1.1.1, h.1.1.2, h.1.2, h.2]
    · rename_i xs ys
      have := eqL_spec ih h
      rw [show xs = ys from Array.toList_inj.1 this]
    · simp only [Bool.and_eq_true, beq_iff] at h; rw [h.1, ih _ _ h.2]
    · cases h
def eqB : Blk → Blk → Bool
  | .cells cs e f o, .cells cs' e' f' o' => Nat.beq e e' && (f == f') && (o == o') && eqL (eqV dep) cs cs'
  | _, _ => false
theorem eqB_spec (x y : Blk) (h : eqB x y = true) : x = y := by
  unfold eqB at h
  split at h
  · simp only [Bool.and_eq_true, beq_iff, beq_iff_eq] at h
    rw [h.1.1.1, h.1.1.2, h.1.2, eqL_spec (eqV_spec dep) h.2]
  · cases h
structure Ent where
  f : Nat
  args : List Value
  heap : List Blk
  rr : RR
def tabR : List Ent → FuncId → List Value → List Blk → Option RR
  | [], _, _, _ => none
  | e :: r, f, a, h => cond (Nat.beq e.f f && eqL (eqV dep) e.args a && eqL eqB e.heap h) (some e.rr) (tabR r f a h)
def tabL (l : List Ent) : Tab := ⟨tabR l, fun _ _ => none⟩
def EntOK (P : Program) (e : Ent) : Prop := ∃ T n, TabOK P T ∧ (evT P T n).run e.f e.args e.heap = some e.rr
theorem tabL_ok (hm : P.follows .mixedOrders = true) {l : List Ent} (h : ∀ e, e ∈ l → EntOK P e) : TabOK P (tabL l) := by
  induction l with
  | nil => intro f args hp rr m w cargs he; cases he
  | cons e l ih =>
    intro f args hp rr m w cargs he hr hl
    simp only [tabL, tabR] at he
    rcases cond_eq_some he with ⟨h1, h2⟩ | ⟨_, h2⟩
    · cases h2
      simp only [Bool.and_eq_true, beq_iff] at h1
      have e1 := h1.1.1
      have e2 := eqL_spec (eqV_spec dep) h1.1.2
      have e3 := eqL_spec eqB_spec h1.2
      obtain ⟨T, n, hT, hrun⟩ := h e (by simp)
      rw [e1, e2, e3] at hrun
      exact (evT_ok hm hT n).run f args hp _ m w cargs hrun hr hl
    · exact ih (fun e' h' => h e' (by simp [h'])) f args hp rr m w cargs h2 hr hl
inductive AllOK (P : Program) : List Ent → Prop
  | nil : AllOK P []
  | cons {e : Ent} {l : List Ent} : EntOK P e → AllOK P l → AllOK P (e :: l)
theorem AllOK.mem {l : List Ent} (h : AllOK P l) : ∀ e, e ∈ l → EntOK P e := by
  induction h with
  | nil => intro e he; cases he
  | cons h1 _ ih =>
    intro e he
    rcases List.mem_cons.1 he with rfl | he
    · exact h1
    · exact ih e he
theorem tab_all (hm : P.follows .mixedOrders = true) {l : List Ent} (h : AllOK P l) : TabOK P (tabL l) := tabL_ok hm h.mem
theorem calls_true_tab (hm : P.follows .mixedOrders = true) {T : Tab} (hT : TabOK P T) {n : Nat} {f : FuncId} {args : List Value} {w : World} (he : saysTrue ((evT P T n).run f args []) = true) (hl : args.all scal = true) :
    Calls P f args.toArray w fun e w' => e = .returned (.bool true) ∧ RowKit.Below w.heap.size w w' := by
  obtain ⟨rr, h1, h2⟩ := saysTrue_spec he
  exact calls_tab hm hT h1 h2 rfl (hr_nil w) (fun b mb h => by cases h) (by simpa using VRL.scal hl)
end Go.GE
