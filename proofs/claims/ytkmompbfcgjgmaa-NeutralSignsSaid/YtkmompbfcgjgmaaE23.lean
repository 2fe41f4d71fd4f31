/-
  GE, part 23: the limit of the evaluators with more and more fuel: no fuel is told any more.
-/
import Derived.Test.YtkmompbfcgjgmaaE22
set_option autoImplicit false
set_option linter.unusedVariables false
set_option linter.unusedSimpArgs false
namespace Go.GE
variable {P : Program} {T : Tab} {α β : Type}

/-- from some fuel on the answer is r -/
def Evl (P : Program) (T : Tab) (F : Ev → Option α) (r : α) : Prop := ∃ N, ∀ n, N ≤ n → F (evT P T n) = some r
theorem Evl.uniq {F : Ev → Option α} {r s : α} (h1 : Evl P T F r) (h2 : Evl P T F s) : r = s := by
  obtain ⟨N, hN⟩ := h1
  obtain ⟨M, hM⟩ := h2
  have a := hN (max N M) (by omega)
  have b := hM (max N M) (by omega)
  rw [a] at b; cases b; rfl
open Classical in
noncomputable def lim (P : Program) (T : Tab) (F : Ev → Option α) : Option α := if h : ∃ r, Evl P T F r then some h.choose else none
theorem lim_eq {F : Ev → Option α} {r : α} (h : Evl P T F r) : lim P T F = some r := by
  have hx : ∃ r, Evl P T F r := ⟨r, h⟩
  unfold lim
  rw [dif_pos hx]
  exact congrArg some (hx.choose_spec.uniq h)
theorem lim_some {F : Ev → Option α} {r : α} (h : lim P T F = some r) : Evl P T F r := by
  unfold lim at h
  split at h
  · rename_i hx; cases h; exact hx.choose_spec
  · cases h
noncomputable def L (P : Program) (T : Tab) : Ev :=
  ⟨fun cx c st => lim P T fun E => E.code cx c st, fun cx b c st => lim P T fun E => E.scp cx b c st, fun f a h => lim P T fun E => E.run f a h, fun l a h => lim P T fun E => E.rnd l a h, T.kp⟩
theorem evT_kp (n : Nat) : (evT P T n).kp = T.kp := by cases n <;> rfl
def Cont (P : Program) (T : Tab) (F : Ev → Option α) : Prop := ∀ r, F (L P T) = some r → Evl P T F r
theorem Evl.const {F : Ev → Option α} {r : α} (h : ∀ E, F E = some r) : Evl P T F r := ⟨0, fun n _ => h _⟩
theorem Evl.then {F : Ev → Option α} {G : Ev → Option β} {r : α} {s : β} (h : Evl P T F r) (k : ∀ E, F E = some r → G E = some s) : Evl P T G s := by
  obtain ⟨N, hN⟩ := h
  exact ⟨N, fun n hn => k _ (hN n hn)⟩
theorem Evl.both {F : Ev → Option α} {H : Ev → Option β} {γ : Type} {G : Ev → Option γ} {r : α} {q : β} {s : γ} (h : Evl P T F r) (h2 : Evl P T H q) (k : ∀ E, F E = some r → H E = some q → G E = some s) : Evl P T G s := by
  obtain ⟨N, hN⟩ := h
  obtain ⟨M, hM⟩ := h2
  exact ⟨max N M, fun n hn => k _ (hN n (by omega)) (hM n (by omega))⟩
theorem Evl.then' {F : Ev → Option α} {G : Ev → Option β} {r : α} {s : β} (h : Evl P T F r) (k : ∀ E, E.kp = T.kp → F E = some r → G E = some s) : Evl P T G s := by
  obtain ⟨N, hN⟩ := h
  exact ⟨N, fun n hn => k _ (evT_kp n) (hN n hn)⟩
theorem Evl.both' {F : Ev → Option α} {H : Ev → Option β} {γ : Type} {G : Ev → Option γ} {r : α} {q : β} {s : γ} (h : Evl P T F r) (h2 : Evl P T H q) (k : ∀ E, E.kp = T.kp → F E = some r → H E = some q → G E = some s) : Evl P T G s := by
  obtain ⟨N, hN⟩ := h
  obtain ⟨M, hM⟩ := h2
  exact ⟨max N M, fun n hn => k _ (evT_kp n) (hN n (by omega)) (hM n (by omega))⟩
theorem Evl.const' {F : Ev → Option α} {r : α} (h : ∀ E, E.kp = T.kp → F E = some r) : Evl P T F r := ⟨0, fun n _ => h _ (evT_kp n)⟩
theorem L_kp : (L P T).kp = T.kp := rfl
theorem cont_callH0 (f : FuncId) (args : List Value) (h : List Blk) : Cont P T fun E => callH0 E f args h := by
  intro r hr
  simp only [callH0] at hr
  split at hr
  · rename_i a hm e1 e2
    split at hr
    · rename_i rr e3
      exact (lim_some e3).then fun E hE => by simp only [callH0, e1, e2, hE]; exact hr
    · cases hr
  · cases hr
theorem cont_callH (f : FuncId) (args : List Value) (h : List Blk) : Cont P T fun E => callH E f args h := by
  intro r hr
  simp only [callH, L_kp] at hr
  split at hr
  · rename_i ek
    exact (cont_callH0 _ _ _ r hr).then' fun E hk hE => by simp only [callH, hk, ek]; exact hE
  · rename_i K ek
    rw [Option.map_eq_some_iff] at hr
    obtain ⟨r0, h0, rfl⟩ := hr
    exact (cont_callH0 _ _ _ r0 h0).then' fun E hk hE => by simp only [callH, hk, ek, hE]; rfl
theorem cont_yieldH (l : Nat) (args : List Value) (h : List Blk) : Cont P T fun E => yieldH E l args h := by
  intro r hr
  simp only [yieldH] at hr
  split at hr
  · rename_i a b hm e1 e2 e3
    split at hr
    · rename_i rr e4
      exact (lim_some e4).then fun E hE => by simp only [yieldH, e1, e2, e3, hE]; exact hr
    · cases hr
  · cases hr
theorem cont_callV (h : List Blk) (f : Value) (args : List Value) : Cont P T fun E => callV P E h f args := by
  intro r hr
  unfold callV at hr
  split at hr
  · exact (cont_callH _ _ _ r hr).then fun E hE => by simpa only [callV] using hE
  · exact (cont_yieldH _ _ _ r hr).then fun E hE => by simpa only [callV] using hE
  · cases hr
theorem cont_aop (σ : Tm) (h : List Blk) (o : Oper) : Cont P T fun E => aop P E σ h o := by
  intro r hr
  cases ho : o.op with
  | call c =>
    simp only [aop, ho] at hr
    split at hr
    · rename_i args e1
      split at hr
      · rename_i b e2
        exact .const fun E => by simp only [aop, ho, e1, e2]; exact hr
      · rename_i f e2
        rcases e3 : opd σ f with _ | fv
        · rw [e3] at hr; cases hr
        · rw [e3] at hr
          exact (cont_callV _ _ _ r hr).then fun E hE => by simp only [aop, ho, e1, e2, e3]; exact hE
      · rename_i rc name e2
        split at hr
        · rename_i t v e3
          split at hr
          · rename_i f v' e4
            exact (cont_callH _ _ _ r hr).then fun E hE => by simp only [aop, ho, e1, e2, e3, e4]; exact hE
          · cases hr
        · cases hr
    · cases hr
  | makeMap t rs => cases rs <;> exact .const fun E => by simp only [aop, ho] at hr ⊢; exact hr
  | next x s => cases s <;> exact .const fun E => by simp only [aop, ho] at hr ⊢; exact hr
  | _ => exact .const fun E => by simp only [aop, ho] at hr ⊢; exact hr
theorem cont_opStep (base : Nat) (ops : List Oper) (o : Oper) (st : St) : Cont P T fun E => opStep P E base ops o st := by
  intro r hr
  simp only [opStep] at hr
  split at hr
  · rename_i e1
    split at hr
    · rename_i x e2
      exact (cont_aop _ _ _ x e2).then fun E hE => by simp only [opStep, e1, hE]; exact hr
    · cases hr
  · rename_i e1
    exact .const fun E => by simp only [opStep, e1]; exact hr
  · cases hr
theorem cont_runOps (base : Nat) (ops : List Oper) : ∀ (l : List Oper) (st : St), Cont P T fun E => runOps P E base ops l st := by
  intro l
  induction l with
  | nil => intro st r hr; exact .const fun E => hr
  | cons o l ih =>
    intro st r hr
    simp only [runOps] at hr
    split at hr
    · rename_i st' fp e1
      exact (cont_opStep _ _ _ _ _ e1).both (ih _ r hr) fun E h1 h2 => by simp only [runOps, h1]; exact h2
    · cases hr
theorem cont_runOpsF (base : Nat) (ops : List Oper) : ∀ (l : List Oper) (st : St), Cont P T fun E => runOpsF P E base ops l st := by
  intro l
  induction l with
  | nil => intro st r hr; exact .const fun E => hr
  | cons o l ih =>
    intro st r hr
    simp only [runOpsF] at hr
    split at hr
    · rename_i st' fp e1
      split at hr
      · rename_i st'' fps e2
        exact (cont_opStep _ _ _ _ _ e1).both (ih _ _ e2) fun E h1 h2 => by simp only [runOpsF, h1, h2]; exact hr
      · cases hr
    · cases hr
theorem cont_region (cx : Cx) (ops : Array Oper) (d : Bool) (st : St) : Cont P T fun E => region P E cx ops d st := by
  intro r hr
  simp only [region] at hr
  rcases cond_eq_some hr with ⟨e1, hr⟩ | ⟨_, hr⟩
  · cases d with
    | false =>
      exact (cont_runOps _ _ _ _ r hr).then fun E hE => by simp only [region, e1, cond_true]; exact hE
    | true =>
      rcases cond_eq_some hr with ⟨e2, hr⟩ | ⟨_, hr⟩
      · split at hr
        · rename_i st' fps e3
          exact (cont_runOpsF _ _ _ _ _ e3).then fun E hE => by simp only [region, e1, e2, cond_true, hE]; exact hr
        · cases hr
      · cases hr
  · cases hr
theorem jumpN_kp {E F : Ev} (h : E.kp = F.kp) (cx : Cx) (rest : Code) (l : Nat) (st : St) : jumpN P E cx rest l st = jumpN P F cx rest l st := by
  simp only [jumpN, h]
theorem cont_codeB (cx : Cx) : ∀ (c : Code) (st : St), Cont P T fun E => codeB P E cx c st := by
  intro c
  induction c with
  | region id ops d =>
    intro st r hr
    simp only [codeB] at hr
    rcases e : region P (L P T) cx ops d st with _ | st'
    · rw [e] at hr; cases hr
    · rw [e] at hr
      exact (cont_region _ _ _ _ _ e).then fun E hE => by simp only [codeB, hE]; exact hr
  | seq a b iha ihb =>
    intro st r hr
    simp only [codeB] at hr
    split at hr
    · rename_i st' e
      exact (iha _ _ e).both (ihb _ _ hr) fun E h1 h2 => by simp only [codeB, h1]; exact h2
    · rename_i hne
      refine (iha _ _ hr).then fun E hE => ?_
      obtain ⟨e, st'⟩ := r
      simp only [codeB, hE]
      cases e with
      | normal => exact absurd hr (hne st')
      | _ => rfl
  | cond c a b iha ihb =>
    intro st r hr
    simp only [codeB] at hr
    split at hr
    · rename_i e1
      split at hr
      · rename_i st' e
        exact (iha _ _ e).then fun E hE => by simp only [codeB, e1, hE]; exact hr
      · rename_i hne
        refine (iha _ _ hr).then fun E hE => ?_
        obtain ⟨e, st'⟩ := r
        simp only [codeB, e1, hE]
        cases e with
        | normal => exact absurd hr (hne st')
        | _ => rfl
    · rename_i e1
      split at hr
      · rename_i st' e
        exact (ihb _ _ e).then fun E hE => by simp only [codeB, e1, hE]; exact hr
      · rename_i hne
        refine (ihb _ _ hr).then fun E hE => ?_
        obtain ⟨e, st'⟩ := r
        simp only [codeB, e1, hE]
        cases e with
        | normal => exact absurd hr (hne st')
        | _ => rfl
    · cases hr
  | block id a ih =>
    intro st r hr
    simp only [codeB] at hr
    rcases e : codeB P (L P T) cx a st with _ | ⟨x, st'⟩
    · rw [e] at hr; cases hr
    · rw [e] at hr
      exact (ih _ _ e).then fun E hE => by simp only [codeB, hE]; exact hr
  | loop a ih =>
    intro st r hr
    simp only [codeB, L_kp] at hr
    split at hr
    · rename_i ek
      rcases e : codeB P (L P T) cx a st with _ | ⟨x, st'⟩
      · rw [e] at hr; cases hr
      · rw [e] at hr
        cases x with
        | normal =>
          simp only at hr
          split at hr
          · rename_i st'' e2
            exact (ih _ _ e).both' (lim_some hr) fun E hk h1 h2 => by simp only [codeB, hk, ek, h1, e2]; exact h2
          · cases hr
        | _ => exact (ih _ _ e).then' fun E hk hE => by simp only [codeB, hk, ek, hE]; exact hr
    · rename_i l ek
      split at hr
      · rename_i st0 e0
        rcases e : codeB P (L P T) cx a st0 with _ | ⟨x, st'⟩
        · rw [e] at hr; cases hr
        · rw [e] at hr
          cases x with
          | normal => exact (ih _ _ e).both' (lim_some hr) fun E hk h1 h2 => by simp only [codeB, hk, ek, e0, h1]; exact h2
          | _ => exact (ih _ _ e).then' fun E hk hE => by simp only [codeB, hk, ek, e0, hE]; exact hr
      · cases hr
  | scope a ih =>
    intro st r hr
    simp only [codeB] at hr
    rcases e : codeB P (L P T) cx a st with _ | ⟨x, st'⟩
    · rw [e] at hr; cases hr
    · rw [e] at hr
      cases x with
      | goto l =>
        simp only at hr
        split at hr
        · rename_i rest e1
          split at hr
          · rename_i st'' e2
            exact (ih _ _ e).both' (lim_some hr) fun E hk h1 h2 => by simp only [codeB, h1, e1, jumpN_kp (P := P) (F := L P T) hk, e2]; exact h2
          · cases hr
        · rename_i e1
          exact (ih _ _ e).then fun E hE => by simp only [codeB, hE, e1]; exact hr
      | _ => exact (ih _ _ e).then fun E hE => by simp only [codeB, hE]; exact hr
  | rangeFunc f ps a b iha ihb =>
    intro st r hr
    simp only [codeB] at hr
    split at hr
    · rename_i g fs cs e1 e2
      split at hr
      · rename_i x e3
        exact (cont_callH _ _ _ _ e3).then fun E hE => by simp only [codeB, e1, e2, hE]; exact hr
      · cases hr
    · cases hr
  | exit id =>
    intro st r hr
    simp only [codeB, normX, L_kp] at hr
    exact .const' fun E hk => by simp only [codeB, normX, hk]; exact hr
  | label l =>
    intro st r hr
    simp only [codeB, normX, L_kp] at hr
    exact .const' fun E hk => by simp only [codeB, normX, hk]; exact hr
  | ret =>
    intro st r hr
    simp only [codeB, normX, L_kp] at hr
    exact .const' fun E hk => by simp only [codeB, normX, hk]; exact hr
  | _ => intro st r hr; exact .const fun E => hr
theorem cont_codeS (cx : Cx) (b c : Code) (st : St) : Cont P T fun E => codeS P E cx b c st := by
  intro r hr
  simp only [codeS] at hr
  rcases e : codeB P (L P T) cx c st with _ | ⟨x, st'⟩
  · rw [e] at hr; cases hr
  · rw [e] at hr
    cases x with
    | goto l =>
      simp only at hr
      split at hr
      · rename_i rest e1
        split at hr
        · rename_i st'' e2
          exact (cont_codeB _ _ _ _ e).both' (lim_some hr) fun E hk h1 h2 => by simp only [codeS, h1, e1, jumpN_kp (P := P) (F := L P T) hk, e2]; exact h2
        · cases hr
      · rename_i e1
        exact (cont_codeB _ _ _ _ e).then fun E hE => by simp only [codeS, hE, e1]; exact hr
    | _ => exact (cont_codeB _ _ _ _ e).then fun E hE => by simp only [codeS, hE]; exact hr
theorem cont_runB (f : FuncId) (args : List Value) (h : List Blk) : Cont P T fun E => runB P E f args h := by
  intro r hr
  simp only [runB] at hr
  split at hr
  · rename_i fn e1
    split at hr
    · rename_i c e2
      split at hr
      · rename_i e3
        rcases e : codeB P (L P T) ⟨f, fn.ntmps, h.length, none⟩ c ⟨enumT 0 args, h, []⟩ with _ | ⟨x, st'⟩
        · rw [e] at hr; cases hr
        · rw [e] at hr
          exact (cont_codeB _ _ _ _ e).then fun E hE => by simp only [runB, e1, e2, hE]; rw [if_pos e3]; exact hr
      · cases hr
    · cases hr
  · cases hr
theorem cont_rndB (l : Nat) (args : List Value) (h : List Blk) : Cont P T fun E => rndB P E l args h := by
  intro r hr
  simp only [rndB] at hr
  split at hr
  · rename_i lp e1
    split at hr
    · rename_i σ e2 e3 e4
      rcases cond_eq_some hr with ⟨e5, hr⟩ | ⟨_, hr⟩
      · split at hr
        · rename_i st1 e6
          split at hr
          · rename_i l1 e7
            split at hr
            · rename_i e8
              split at hr
              · rename_i e st2 e9
                exact (cont_codeB _ _ _ _ e6).both (cont_codeB _ _ _ _ e9) fun E h1 h2 => by simp only [rndB, e1, e2, e3, e4, e5, cond_true, h1, e7, e8, h2]; exact hr
              · cases hr
            · cases hr
          · cases hr
        · cases hr
      · cases hr
    · cases hr
  · cases hr

/-! ### the limit's own equations -/
theorem Evl.shift {F G : Ev → Option α} {r : α} (h : Evl P T F r) (k : ∀ n, F (evT P T n) = some r → G (evT P T (n + 1)) = some r) : Evl P T G r := by
  obtain ⟨N, hN⟩ := h
  refine ⟨N + 1, fun n hn => ?_⟩
  obtain ⟨m, rfl⟩ : ∃ m, n = m + 1 := ⟨n - 1, by omega⟩
  exact k m (hN m (by omega))
theorem L_code {cx : Cx} {c : Code} {st : St} {r : Ex × St} (h : codeB P (L P T) cx c st = some r) : (L P T).code cx c st = some r :=
  lim_eq ((cont_codeB cx c st r h).shift fun n hn => hn)
theorem L_scp {cx : Cx} {b c : Code} {st : St} {r : Ex × St} (h : codeS P (L P T) cx b c st = some r) : (L P T).scp cx b c st = some r :=
  lim_eq ((cont_codeS cx b c st r h).shift fun n hn => hn)
theorem L_rnd {l : Nat} {args : List Value} {h : List Blk} {r : RR} (he : rndB P (L P T) l args h = some r) : (L P T).rnd l args h = some r :=
  lim_eq ((cont_rndB l args h r he).shift fun n hn => hn)
theorem L_run {f : FuncId} {args : List Value} {h : List Blk} {r : RR} (hT : T f args h = none) (he : runB P (L P T) f args h = some r) : (L P T).run f args h = some r :=
  lim_eq ((cont_runB f args h r he).shift fun n hn => by
    show (withT T (Ev.step P (evT P T n))).run f args h = some r
    simp only [withT, hT]; exact hn)
theorem L_tab {f : FuncId} {args : List Value} {h : List Blk} {r : RR} (hT : T f args h = some r) : (L P T).run f args h = some r :=
  lim_eq ⟨0, fun n _ => by cases n <;> simp only [evT, withT, hT]⟩
theorem L_ok (hm : P.follows .mixedOrders = true) (hT : TabOK P T) : EvOK P (L P T) := by
  have hrun : RunOK P (L P T) := by
    intro f args h rr m w cargs he hr hl
    obtain ⟨N, hN⟩ := lim_some he
    exact (evT_ok hm hT N).run f args h rr m w cargs (hN N (Nat.le_refl _)) hr hl
  have hrnd : RndOK P (L P T) := by
    intro l args h rr m w cargs mb he
    obtain ⟨N, hN⟩ := lim_some he
    exact (evT_ok hm hT N).rnd l args h rr m w cargs mb (hN N (Nat.le_refl _))
  refine ⟨fun cx c st e st' he => ?_, fun cx bd c st e st' he => ?_, hrun, hrnd, draw_ok hrun hrnd hm⟩
  · obtain ⟨N, hN⟩ := lim_some he
    exact (evT_ok hm hT N).code cx c st e st' (hN N (Nat.le_refl _))
  · obtain ⟨N, hN⟩ := lim_some he
    exact (evT_ok hm hT N).scp cx bd c st e st' (hN N (Nat.le_refl _))
theorem calls_lim (hm : P.follows .mixedOrders = true) (hT : TabOK P T) {f : FuncId} {args : List Value} {h : List Blk} {rr : RR} {m : Mp} {w : World} {cargs : Array Value} {v : Value}
    (he : (L P T).run f args h = some rr) (hv : rr.v = v) (hs : scal v = true) (hr : HR (fun _ => True) m h w) (hown : ∀ b mb, m b = some mb → mb.own = false) (hl : VRL m args cargs.toList) :
    Calls P f cargs w fun e w' => e = .returned v ∧ RowKit.Below w.heap.size w w' := by
  obtain ⟨N, hN⟩ := lim_some he
  exact calls_tab hm hT (hN N (Nat.le_refl _)) hv hs hr hown hl
/-- a closed call, run with fuel, at the limit: more fuel answers no less is not needed: the table says it -/
theorem L_of_table {f : FuncId} {args : List Value} {h : List Blk} {r : RR} (hT : T f args h = some r) : (L P T).run f args h = some r := L_tab hT
end Go.GE
