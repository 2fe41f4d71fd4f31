/-
  GE, part 20: contracts: a table of what calls answer, sound, put ahead of the evaluator; more fuel answers no less.
-/
import Derived.Test.YtkmompbfcgjgmaaE19
set_option autoImplicit false
set_option linter.unusedVariables false
set_option linter.unusedSimpArgs false
namespace Go.GE
variable {P : Program}

/-! ### tables -/
structure Tab where
  run : FuncId → List Value → List Blk → Option RR
  kp : FuncId → Nat → Option Kp
instance : CoeFun Tab (fun _ => FuncId → List Value → List Blk → Option RR) := ⟨Tab.run⟩
def TabOK (P : Program) (T : Tab) : Prop := RunOK P ⟨fun _ _ _ => none, fun _ _ _ _ => none, T.run, fun _ _ _ => none, fun _ _ => none⟩
def withT (T : Tab) (E : Ev) : Ev := { E with run := fun f a h => match T.run f a h with | some r => some r | none => E.run f a h, kp := T.kp }
def evT (P : Program) (T : Tab) : Nat → Ev
  | 0 => withT T (ev P 0)
  | n + 1 => withT T (Ev.step P (evT P T n))
theorem withT_ok (hm : P.follows .mixedOrders = true) {T : Tab} {E : Ev} (hT : TabOK P T) (hE : EvOK P E) : EvOK P (withT T E) := by
  have hrun : RunOK P (withT T E) := by
    intro f args h rr m w cargs he hr hl
    simp only [withT] at he
    split at he
    · rename_i r hr'
      cases he
      exact hT f args h rr m w cargs hr' hr hl
    · exact hE.run f args h rr m w cargs he hr hl
  have hrnd : RndOK P (withT T E) := fun l args h rr m w cargs mb he => hE.rnd l args h rr m w cargs mb he
  exact ⟨fun cx c st e st' h => hE.code cx c st e st' h, fun cx bd c st e st' h => hE.scp cx bd c st e st' h, hrun, hrnd, draw_ok hrun hrnd hm⟩
theorem evT_ok (hm : P.follows .mixedOrders = true) {T : Tab} (hT : TabOK P T) : ∀ n, EvOK P (evT P T n) := by
  intro n
  induction n with
  | zero => exact withT_ok hm hT (ev_ok hm 0)
  | succ n ih =>
    have hrun := run_ok ih
    have hrnd := rnd_ok ih
    exact withT_ok hm hT (step_ok ih (draw_ok hrun hrnd hm))
def noT : Tab := ⟨fun _ _ _ => none, fun _ _ => none⟩
/-- a table with what is kept at the heads of loops -/
def Tab.keep (T : Tab) (k : FuncId → Nat → Option Kp) : Tab := ⟨T.run, k⟩
theorem TabOK.keep {T : Tab} (h : TabOK P T) (k : FuncId → Nat → Option Kp) : TabOK P (T.keep k) := h
theorem noT_ok : TabOK P noT := fun f args h rr m w cargs he => by cases he
/-- a table, with answers of the evaluator in front -/
theorem tab_of (hm : P.follows .mixedOrders = true) {T T2 : Tab} (hT : TabOK P T) (h : ∀ f a hp rr, T2 f a hp = some rr → T f a hp = some rr ∨ ∃ n, (evT P T n).run f a hp = some rr) : TabOK P T2 := by
  intro f args hp rr m w cargs he hr hl
  rcases h f args hp rr he with h1 | ⟨n, h1⟩
  · exact hT f args hp rr m w cargs h1 hr hl
  · exact (evT_ok hm hT n).run f args hp rr m w cargs h1 hr hl
theorem calls_tab (hm : P.follows .mixedOrders = true) {T : Tab} (hT : TabOK P T) {n : Nat} {f : FuncId} {args : List Value} {h : List Blk} {rr : RR} {m : Mp} {w : World} {cargs : Array Value} {v : Value}
    (he : (evT P T n).run f args h = some rr) (hv : rr.v = v) (hs : scal v = true) (hr : HR (fun _ => True) m h w) (hown : ∀ b mb, m b = some mb → mb.own = false) (hl : VRL m args cargs.toList) :
    Calls P f cargs w fun e w' => e = .returned v ∧ RowKit.Below w.heap.size w w' := by
  obtain ⟨cv, w', m', q1, _, q3, q4, q5, q6⟩ := (evT_ok hm hT n).run f args h rr m w cargs he hr hl
  have hcv : cv = v := by rw [hv] at q3; exact q3.scal_eq hs
  subst hcv
  intro cs
  obtain ⟨fr, h1, h2, h3⟩ := q1 cs
  exact ⟨_, w', fr, ⟨rfl, ⟨q5.qt.os, q5.qt.tape, q5.qt.out, q5.size, fun k hk => q5.same k hk fun b mb _ hb ho => by rw [hown b mb hb] at ho; cases ho⟩⟩, h1, h2, h3⟩
end Go.GE
