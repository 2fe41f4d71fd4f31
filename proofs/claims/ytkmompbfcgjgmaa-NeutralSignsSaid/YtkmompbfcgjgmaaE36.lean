/-
  GE, part 36: loops at whose heads just some temporaries are kept, as rewriting rules; the limit's equations as equalities.
-/
import Derived.Test.YtkmompbfcgjgmaaE35
set_option autoImplicit false
set_option linter.unusedVariables false
set_option linter.unusedSimpArgs false
namespace Go.GE
variable {P : Program} {T : Tab}
theorem evT_mono' {n m : Nat} (h : n ≤ m) : Le (evT P T n) (evT P T m) := by
  induction h with
  | refl => exact ⟨fun _ _ _ _ h => h, fun _ _ _ _ _ h => h, fun _ _ _ _ h => h, fun _ _ _ _ h => h, rfl⟩
  | step _ ih =>
    have := evT_le (P := P) (T := T) ‹Nat›
    exact ⟨fun cx c st r h => this.code _ _ _ _ (ih.code _ _ _ _ h), fun cx b c st r h => this.scp _ _ _ _ _ (ih.scp _ _ _ _ _ h), fun f a h r hr => this.run _ _ _ _ (ih.run _ _ _ _ hr), fun l a h r hr => this.rnd _ _ _ _ (ih.rnd _ _ _ _ hr), ih.kp.trans this.kp⟩
theorem L_le (n : Nat) : Le (evT P T n) (L P T) :=
  ⟨fun cx c st r h => lim_eq ⟨n, fun m hm => (evT_mono' hm).code _ _ _ _ h⟩, fun cx b c st r h => lim_eq ⟨n, fun m hm => (evT_mono' hm).scp _ _ _ _ _ h⟩,
   fun f a h r hr => lim_eq ⟨n, fun m hm => (evT_mono' hm).run _ _ _ _ hr⟩, fun l a h r hr => lim_eq ⟨n, fun m hm => (evT_mono' hm).rnd _ _ _ _ hr⟩, evT_kp n⟩
theorem opt_eq {α : Type} {a b : Option α} (h1 : ∀ r, a = some r → b = some r) (h2 : ∀ r, b = some r → a = some r) : a = b := by
  cases ha : a with
  | some r => exact (h1 r ha).symm
  | none => cases hb : b with
    | none => rfl
    | some r => rw [h2 r hb] at ha; cases ha
theorem L_code_eq (cx : Cx) (c : Code) (st : St) : (L P T).code cx c st = codeB P (L P T) cx c st := by
  refine opt_eq (fun r h => ?_) fun r h => L_code h
  obtain ⟨N, hN⟩ := lim_some h
  have h2 : (evT P T (N + 1)).code cx c st = some r := hN _ (by omega)
  exact mono_codeB (L_le N) _ _ _ _ h2
theorem L_scp_eq (cx : Cx) (b c : Code) (st : St) : (L P T).scp cx b c st = codeS P (L P T) cx b c st := by
  refine opt_eq (fun r h => ?_) fun r h => L_scp h
  obtain ⟨N, hN⟩ := lim_some h
  have h2 : (evT P T (N + 1)).scp cx b c st = some r := hN _ (by omega)
  exact mono_codeS (L_le N) _ _ _ _ _ h2
theorem L_rnd_eq (l : Nat) (args : List Value) (h : List Blk) : (L P T).rnd l args h = rndB P (L P T) l args h := by
  refine opt_eq (fun r h => ?_) fun r h => L_rnd h
  obtain ⟨N, hN⟩ := lim_some h
  have h2 : (evT P T (N + 1)).rnd l args _ = some r := hN _ (by omega)
  exact mono_rndB (L_le N) _ _ _ _ h2
theorem L_run_eq {f : FuncId} {args : List Value} {h : List Blk} (hT : T.run f args h = none) : (L P T).run f args h = runB P (L P T) f args h := by
  refine opt_eq (fun r h => ?_) fun r h => L_run hT h
  obtain ⟨N, hN⟩ := lim_some h
  have h2 : (evT P T (N + 1)).run f args _ = some r := hN _ (by omega)
  simp only [evT, withT, hT] at h2
  exact mono_runB (L_le N) _ _ _ _ h2
/-! ### jumps back to a label -/
def gotoL (P : Program) (E : Ev) (cx : Cx) (b : Code) (l : Nat) (st : St) : Res :=
  match findLabel b l with
  | some rest => match jumpN P E cx rest l st with
    | some st' => E.scp cx b rest st'
    | none => none
  | none => some (.goto l, st)
def gotoS (P : Program) (E : Ev) (cx : Cx) (b : Code) (r : Res) : Res :=
  match r with
  | some (.goto l, st) => gotoL P E cx b l st
  | r => r
theorem gotoS_goto {E : Ev} {cx : Cx} {b : Code} {l : Nat} {st : St} : gotoS P E cx b (some (.goto l, st)) = gotoL P E cx b l st := rfl
theorem gotoS_normal {E : Ev} {cx : Cx} {b : Code} {st : St} : gotoS P E cx b (some (.normal, st)) = some (.normal, st) := rfl
theorem gotoS_exit {E : Ev} {cx : Cx} {b : Code} {i : Nat} {st : St} : gotoS P E cx b (some (.exit i, st)) = some (.exit i, st) := rfl
theorem gotoS_ret {E : Ev} {cx : Cx} {b : Code} {st : St} : gotoS P E cx b (some (.ret, st)) = some (.ret, st) := rfl
theorem scopeK_step {E : Ev} {cx : Cx} {x b : Code} {st : St} (h : x = .scope b) : codeB P E cx x st = gotoS P E cx b (codeB P E cx b st) := by
  subst h
  simp only [codeB, gotoS, gotoL]
  rcases codeB P E cx b st with _ | ⟨e, st'⟩
  · rfl
  · cases e <;> rfl
/-- from a label on -/
def scpL (P : Program) (E : Ev) (cx : Cx) (b c : Code) (st : St) : Res := codeS P E cx b c st
theorem scpL_eq {E : Ev} {cx : Cx} {b c : Code} {st : St} : scpL P E cx b c st = gotoS P E cx b (codeB P E cx c st) := by
  simp only [scpL, codeS, gotoS, gotoL]
  rcases codeB P E cx c st with _ | ⟨e, st'⟩
  · rfl
  · cases e <;> rfl
theorem gotoL_step {cx : Cx} {b rest : Code} {l : Nat} {K : Kp} {st : St} (hf : findLabel b l = some rest) (hk : (L P T).kp cx.fn (4 * l + 4) = some K) : gotoL P (L P T) cx b l st = headS cx.base K st (scpL P (L P T) cx b rest) := by
  simp only [gotoL, hf, jumpN, hk, headS, scpL]
  cases GE.normK cx.base K st with
  | none => rfl
  | some st' => exact L_scp_eq _ _ _ _
/-- a loop's body from its head on -/
def lpB (P : Program) (E : Ev) (cx : Cx) (x a : Code) (st0 : St) : Res := roundS (fun st' => E.code cx x st') (codeB P E cx a st0)
/-- what follows a round -/
def roundC (E : Ev) (cx : Cx) (x : Code) (r : Res) : Res := roundS (fun st' => E.code cx x st') r
theorem roundC_normal {E : Ev} {cx : Cx} {x : Code} {st : St} : roundC E cx x (some (.normal, st)) = E.code cx x st := rfl
theorem roundC_exit {E : Ev} {cx : Cx} {x : Code} {i : Nat} {st : St} : roundC E cx x (some (.exit i, st)) = some (.exit i, st) := rfl
theorem roundC_goto {E : Ev} {cx : Cx} {x : Code} {i : Nat} {st : St} : roundC E cx x (some (.goto i, st)) = some (.goto i, st) := rfl
theorem roundC_ret {E : Ev} {cx : Cx} {x : Code} {st : St} : roundC E cx x (some (.ret, st)) = some (.ret, st) := rfl
theorem lpB_eq {E : Ev} {cx : Cx} {x a : Code} {st0 : St} : lpB P E cx x a st0 = roundC E cx x (codeB P E cx a st0) := rfl
theorem lpB_step {E : Ev} {cx : Cx} {x a : Code} {l : Kp} {st : St} (h : x = .loop a) (hk : E.kp cx.fn (4 * rid a + 3) = some l) : codeB P E cx x st = headS cx.base l st (lpB P E cx x a) := loopK_step h hk
theorem lpB_again {cx : Cx} {x a : Code} {l : Kp} {st : St} (h : x = .loop a) (hk : (L P T).kp cx.fn (4 * rid a + 3) = some l) : (L P T).code cx x st = headS cx.base l st (lpB P (L P T) cx x a) :=
  (L_code_eq cx x st).trans (loopK_step h hk)
theorem normK_eq {base : Nat} {ks : List Nat} {ns : List NilH} {st : St} : normK base ⟨ks, ns⟩ st = sweep base (fixS base ns ⟨keepO ks st.σ, st.h, st.wr⟩) := rfl
theorem fixS_nil {base : Nat} {st : St} : fixS base [] st = st := rfl
theorem fixS_cons {base : Nat} {x : NilH} {r : List NilH} {st : St} : fixS base (x :: r) st = fixS base r (fix1 base x st) := rfl
theorem keepO_nil {σ : Tm} : keepO [] σ = [] := rfl
theorem keepO_cons {t : Nat} {r : List Nat} {σ : Tm} : keepO (t :: r) σ = (match lk σ t with | some v => put (keepO r σ) t v | none => keepO r σ) := rfl
end Go.GE
