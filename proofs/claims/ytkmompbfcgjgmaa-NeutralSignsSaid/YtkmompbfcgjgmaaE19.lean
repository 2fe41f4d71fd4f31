/-
  GE, part 19: from a run of the evaluator to a call's contract, and to what a law's row wants behind the call.
-/
import Derived.Test.YtkmompbfcgjgmaaE18
import Derived.WalkKit
import Derived.ProofKit
import Derived.OpenShut
import Derived.Below
set_option autoImplicit false
set_option linter.unusedVariables false
set_option linter.unusedSimpArgs false
namespace Go.GE
variable {P : Program}

/-- of what was there when the call began nothing has turned -/
theorem calls_run (hm : P.follows .mixedOrders = true) {n : Nat} {f : FuncId} {args : List Value} {h : List Blk} {rr : RR} {m : Mp} {w : World} {cargs : Array Value} {v : Value}
    (he : (ev P n).run f args h = some rr) (hv : rr.v = v) (hs : scal v = true) (hr : HR (fun _ => True) m h w) (hown : ∀ b mb, m b = some mb → mb.own = false) (hl : VRL m args cargs.toList) :
    Calls P f cargs w fun e w' => e = .returned v ∧ RowKit.Below w.heap.size w w' := by
  obtain ⟨cv, w', m', q1, _, q3, q4, q5, q6⟩ := (ev_ok hm n).run f args h rr m w cargs he hr hl
  have hcv : cv = v := by rw [hv] at q3; exact q3.scal_eq hs
  subst hcv
  intro cs
  obtain ⟨fr, h1, h2, h3⟩ := q1 cs
  exact ⟨_, w', fr, ⟨rfl, ⟨q5.qt.os, q5.qt.tape, q5.qt.out, q5.size, fun k hk => q5.same k hk fun b mb _ hb ho => by rw [hown b mb hb] at ho; cases ho⟩⟩, h1, h2, h3⟩
theorem hr_nil (w : World) : HR (fun _ => True) (fun _ => none) [] w :=
  ⟨(fun b mb h => by cases h), (fun b mb blk _ h => by cases h), (fun b1 b2 mb1 mb2 x1 x2 _ _ _ h => by cases h)⟩
/-- a call on plain values alone -/
theorem calls_plain (hm : P.follows .mixedOrders = true) {n : Nat} {f : FuncId} {args : List Value} {rr : RR} {w : World} {v : Value}
    (he : (ev P n).run f args [] = some rr) (hv : rr.v = v) (hs : scal v = true) (hl : args.all scal = true) :
    Calls P f args.toArray w fun e w' => e = .returned v ∧ RowKit.Below w.heap.size w w' :=
  calls_run hm he hv hs (hr_nil w) (fun b mb h => by cases h) (by simpa using VRL.scal hl)
/-- is the answer 'true'? -/
def saysTrue (r : Option RR) : Bool :=
  match r with
  | some rr => match rr.v with
    | .bool b => b
    | _ => false
  | none => false
theorem saysTrue_spec {r : Option RR} (h : saysTrue r = true) : ∃ rr, r = some rr ∧ rr.v = .bool true := by
  unfold saysTrue at h
  split at h
  · rename_i rr
    split at h
    · rename_i b hb; subst h; exact ⟨rr, rfl, hb⟩
    · cases h
  · cases h
theorem calls_true (hm : P.follows .mixedOrders = true) {n : Nat} {f : FuncId} {args : List Value} {w : World} (he : saysTrue ((ev P n).run f args []) = true) (hl : args.all scal = true) :
    Calls P f args.toArray w fun e w' => e = .returned (.bool true) ∧ RowKit.Below w.heap.size w w' := by
  obtain ⟨rr, h1, h2⟩ := saysTrue_spec he
  exact calls_plain hm h1 h2 rfl hl

/-! ### what a row wants behind the call -/
section
open Go.ChangeShapes Go.WideShapes Go.ChangeAt Go.RowKit
variable {H : Type} {enc : TypeId × Value → H}
theorem post_of_below {f : Func} {s : ChangeSpec} {apart fresh handsOn again : Bool} {W W' : World} {args : Array Value} {v : Value} {ds gs : List (DataW H)} {before pa pv : List MemPlace}
    (hW : DataW.Whole enc P f.params.toList s.vars apart W args.toList ds gs before)
    (hres : ∀ (b : Nat) (sp : Nat → Bool) (hd : Bool), DataW.TrodAll enc P W' b sp hd f.resultTypes.toList (v.resultList f.resultTypes.size) (s.fn H (ds ++ gs)).results [])
    (hargs : ∀ sp : Nat → Bool, (∀ p ∈ before, sp p.block = true) → DataW.TrodAll enc P W' 0 sp true f.params.toList args.toList (s.fn H (ds ++ gs)).args pa)
    (hvars : ∀ sp : Nat → Bool, (∀ p ∈ before, sp p.block = true) → DataW.TrodVars enc P W' sp s.vars (s.fn H (ds ++ gs)).vars pv)
    (hps : before = pa ++ pv) (hb : RowKit.Below W.heap.size W W')
    (hok : ∀ (j : Nat) (t : TypeId) (r : Value), f.resultTypes[j]? = some t → (v.resultList f.resultTypes.size)[j]? = some r → Value.okWide P W' .any 0 t r) :
    s.post enc P f apart fresh handsOn again W args v W' := by
  have hold : ∀ p ∈ before, (fun b => decide (b < W.heap.size)) p.block = true := fun p hp => by simpa using hW.lt p hp
  have hlt := hW.lt
  refine ⟨ds, gs, before, [], pa, pv, hW, hres _ _ _, hargs _ hold, hvars _ hold, World.keptBut_mono (fun p hp => ⟨hp, ?_⟩) (hb.frame (· ∈ before)), fun _ => ?_⟩
  · rw [hps, List.mem_append] at hp
    exact Or.inr hp
  · obtain ⟨_, _, _, _, _, hz, hn⟩ := hW
    refine ⟨hok, _, _, ([] ++ pa) ++ pv, ⟨[] ++ pa, pv, trodAll_append (hargs _ (fun _ _ => rfl)) (hres _ _ _), hvars _ (fun _ _ => rfl), rfl, ?_, ?_⟩, ?_⟩
    · intro b off hp
      have hp' : MemPlace.cell b off ∈ before := by rw [hps]; simpa using hp
      rw [hb.frozen (hlt _ hp')]
      exact hz b off hp'
    · intro ha
      have := hn ha
      rw [hps] at this
      simpa using this
    · intro p hp _
      rw [hps]
      simpa using hp
end
end Go.GE
