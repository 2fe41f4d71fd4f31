/-
  GE, part 31: what an evaluator answers with some fuel, the limit answers: closed calls run by the kernel serve the limit.
-/
import Derived.Test.YtkmompbfcgjgmaaE30
set_option autoImplicit false
set_option linter.unusedVariables false
set_option linter.unusedSimpArgs false
namespace Go.GE
variable {P : Program} {T : Tab} {α β : Type}

structure Le (E F : Ev) : Prop where
  code : ∀ cx c st r, E.code cx c st = some r → F.code cx c st = some r
  scp : ∀ cx b c st r, E.scp cx b c st = some r → F.scp cx b c st = some r
  run : ∀ f a h r, E.run f a h = some r → F.run f a h = some r
  rnd : ∀ l a h r, E.rnd l a h = some r → F.rnd l a h = some r
  kp : E.kp = F.kp
section
variable {E F : Ev} (hle : Le E F)
include hle
theorem mono_callH0 (f : FuncId) (args : List Value) (h : List Blk) (r : OR) (hr : callH0 E f args h = some r) : callH0 F f args h = some r := by
  simp only [callH0] at hr
  split at hr
  · rename_i a hm e1 e2
    split at hr
    · rename_i rr e3
      simp only [callH0, e1, e2, hle.run _ _ _ _ e3]; exact hr
    · cases hr
  · cases hr
theorem mono_callH (f : FuncId) (args : List Value) (h : List Blk) (r : OR) (hr : callH E f args h = some r) : callH F f args h = some r := by
  simp only [callH, hle.kp] at hr ⊢
  split at hr
  · exact mono_callH0 hle _ _ _ _ hr
  · rw [Option.map_eq_some_iff] at hr
    obtain ⟨r0, h0, rfl⟩ := hr
    rw [mono_callH0 hle _ _ _ _ h0]; rfl
theorem mono_yieldH (l : Nat) (args : List Value) (h : List Blk) (r : OR) (hr : yieldH E l args h = some r) : yieldH F l args h = some r := by
  simp only [yieldH] at hr
  split at hr
  · rename_i a b hm e1 e2 e3
    split at hr
    · rename_i rr e4
      simp only [yieldH, e1, e2, e3, hle.rnd _ _ _ _ e4]; exact hr
    · cases hr
  · cases hr
theorem mono_callV (h : List Blk) (f : Value) (args : List Value) (r : OR) (hr : callV P E h f args = some r) : callV P F h f args = some r := by
  unfold callV at hr
  split at hr
  · have := mono_callH hle _ _ _ _ hr
    simpa only [callV] using this
  · have := mono_yieldH hle _ _ _ _ hr
    simpa only [callV] using this
  · cases hr
theorem mono_aop (σ : Tm) (h : List Blk) (o : Oper) (r : OR) (hr : aop P E σ h o = some r) : aop P F σ h o = some r := by
  cases ho : o.op with
  | call c =>
    simp only [aop, ho] at hr
    split at hr
    · rename_i args e1
      split at hr
      · rename_i b e2
        simp only [aop, ho, e1, e2]; exact hr
      · rename_i f e2
        rcases e3 : opd σ f with _ | fv
        · rw [e3] at hr; cases hr
        · rw [e3] at hr
          have := mono_callV (P := P) hle _ _ _ _ hr
          simp only [aop, ho, e1, e2, e3]; exact this
      · rename_i rc name e2
        split at hr
        · rename_i t v e3
          split at hr
          · rename_i f v' e4
            have := mono_callH hle _ _ _ _ hr
            simp only [aop, ho, e1, e2, e3, e4]; exact this
          · cases hr
        · cases hr
    · cases hr
  | makeMap t rs => cases rs <;> (simp only [aop, ho] at hr ⊢; exact hr)
  | next x s => cases s <;> (simp only [aop, ho] at hr ⊢; exact hr)
  | _ => simp only [aop, ho] at hr ⊢; exact hr
theorem mono_opStep (base : Nat) (ops : List Oper) (o : Oper) (st : St) (r : St × Fp) (hr : opStep P E base ops o st = some r) : opStep P F base ops o st = some r := by
  simp only [opStep] at hr
  split at hr
  · rename_i e1
    split at hr
    · rename_i x e2
      simp only [opStep, e1, mono_aop hle _ _ _ _ e2]; exact hr
    · cases hr
  · rename_i e1
    simp only [opStep, e1]; exact hr
  · cases hr
theorem mono_runOps (base : Nat) (ops : List Oper) : ∀ (l : List Oper) (st : St) (r : St), runOps P E base ops l st = some r → runOps P F base ops l st = some r := by
  intro l
  induction l with
  | nil => intro st r hr; exact hr
  | cons o l ih =>
    intro st r hr
    simp only [runOps] at hr
    split at hr
    · rename_i st' fp e1
      simp only [runOps, mono_opStep hle _ _ _ _ _ e1]; exact ih _ _ hr
    · cases hr
theorem mono_runOpsF (base : Nat) (ops : List Oper) : ∀ (l : List Oper) (st : St) (r : St × List Fp), runOpsF P E base ops l st = some r → runOpsF P F base ops l st = some r := by
  intro l
  induction l with
  | nil => intro st r hr; exact hr
  | cons o l ih =>
    intro st r hr
    simp only [runOpsF] at hr
    split at hr
    · rename_i st' fp e1
      split at hr
      · rename_i st'' fps e2
        simp only [runOpsF, mono_opStep hle _ _ _ _ _ e1, ih _ _ e2]; exact hr
      · cases hr
    · cases hr
theorem mono_region (cx : Cx) (ops : Array Oper) (d : Bool) (st : St) (r : St) (hr : region P E cx ops d st = some r) : region P F cx ops d st = some r := by
  simp only [region] at hr
  rcases cond_eq_some hr with ⟨e1, hr⟩ | ⟨_, hr⟩
  · cases d with
    | false => simp only [region, e1, cond_true]; exact mono_runOps hle _ _ _ _ _ hr
    | true =>
      rcases cond_eq_some hr with ⟨e2, hr⟩ | ⟨_, hr⟩
      · split at hr
        · rename_i st' fps e3
          simp only [region, e1, e2, cond_true, mono_runOpsF hle _ _ _ _ _ e3]; exact hr
        · cases hr
      · cases hr
  · cases hr
theorem mono_codeB (cx : Cx) : ∀ (c : Code) (st : St) (r : Ex × St), codeB P E cx c st = some r → codeB P F cx c st = some r := by
  intro c
  induction c with
  | region id ops d =>
    intro st r hr
    simp only [codeB] at hr
    rcases e : region P E cx ops d st with _ | st'
    · rw [e] at hr; cases hr
    · rw [e] at hr
      simp only [codeB, mono_region hle _ _ _ _ _ e]; exact hr
  | seq a b iha ihb =>
    intro st r hr
    simp only [codeB] at hr
    split at hr
    · rename_i st' e
      simp only [codeB, iha _ _ e]; exact ihb _ _ hr
    · rename_i hne
      have := iha _ _ hr
      obtain ⟨e, st'⟩ := r
      simp only [codeB, this]
      cases e with
      | normal => exact absurd hr (hne st')
      | _ => rfl
  | cond c a b iha ihb =>
    intro st r hr
    simp only [codeB] at hr
    split at hr
    · rename_i e1
      split at hr
      · rename_i st' e
        simp only [codeB, e1, iha _ _ e]; exact hr
      · rename_i hne
        have := iha _ _ hr
        obtain ⟨e, st'⟩ := r
        simp only [codeB, e1, this]
        cases e with
        | normal => exact absurd hr (hne st')
        | _ => rfl
    · rename_i e1
      split at hr
      · rename_i st' e
        simp only [codeB, e1, ihb _ _ e]; exact hr
      · rename_i hne
        have := ihb _ _ hr
        obtain ⟨e, st'⟩ := r
        simp only [codeB, e1, this]
        cases e with
        | normal => exact absurd hr (hne st')
        | _ => rfl
    · cases hr
  | block id a ih =>
    intro st r hr
    simp only [codeB] at hr
    rcases e : codeB P E cx a st with _ | ⟨x, st'⟩
    · rw [e] at hr; cases hr
    · rw [e] at hr
      simp only [codeB, ih _ _ e]; exact hr
  | loop a ih =>
    intro st r hr
    simp only [codeB] at hr
    split at hr
    · rename_i ek
      rcases e : codeB P E cx a st with _ | ⟨x, st'⟩
      · rw [e] at hr; cases hr
      · rw [e] at hr
        rw [hle.kp] at ek
        cases x with
        | normal =>
          simp only at hr
          split at hr
          · rename_i st'' e2
            simp only [codeB, ek, ih _ _ e, e2]; exact hle.code _ _ _ _ hr
          · cases hr
        | _ => simp only [codeB, ek, ih _ _ e]; exact hr
    · rename_i l ek
      rw [hle.kp] at ek
      split at hr
      · rename_i st0 e0
        rcases e : codeB P E cx a st0 with _ | ⟨x, st'⟩
        · rw [e] at hr; cases hr
        · rw [e] at hr
          cases x with
          | normal =>
            simp only [codeB, ek, e0, ih _ _ e]; exact hle.code _ _ _ _ hr
          | _ => simp only [codeB, ek, e0, ih _ _ e]; exact hr
      · cases hr
  | scope a ih =>
    intro st r hr
    simp only [codeB] at hr
    rcases e : codeB P E cx a st with _ | ⟨x, st'⟩
    · rw [e] at hr; cases hr
    · rw [e] at hr
      cases x with
      | goto l =>
        simp only at hr
        split at hr
        · rename_i rest e1
          split at hr
          · rename_i st'' e2
            simp only [codeB, ih _ _ e, e1, jumpN_kp (P := P) (E := F) (F := E) hle.kp.symm, e2]; exact hle.scp _ _ _ _ _ hr
          · cases hr
        · rename_i e1
          simp only [codeB, ih _ _ e, e1]; exact hr
      | _ => simp only [codeB, ih _ _ e]; exact hr
  | rangeFunc f ps a b iha ihb =>
    intro st r hr
    simp only [codeB] at hr
    split at hr
    · rename_i g fs cs e1 e2
      split at hr
      · rename_i x e3
        simp only [codeB, e1, e2, mono_callH hle _ _ _ _ e3]; exact hr
      · cases hr
    · cases hr
  | exit id => intro st r hr; simp only [codeB, normX, hle.kp] at hr ⊢; exact hr
  | label l => intro st r hr; simp only [codeB, normX, hle.kp] at hr ⊢; exact hr
  | ret => intro st r hr; simp only [codeB, normX, hle.kp] at hr ⊢; exact hr
  | _ => intro st r hr; exact hr
theorem mono_codeS (cx : Cx) (b c : Code) (st : St) (r : Ex × St) (hr : codeS P E cx b c st = some r) : codeS P F cx b c st = some r := by
  simp only [codeS] at hr
  rcases e : codeB P E cx c st with _ | ⟨x, st'⟩
  · rw [e] at hr; cases hr
  · rw [e] at hr
    cases x with
    | goto l =>
      simp only at hr
      split at hr
      · rename_i rest e1
        split at hr
        · rename_i st'' e2
          simp only [codeS, mono_codeB hle _ _ _ _ e, e1, jumpN_kp (P := P) (E := F) (F := E) hle.kp.symm, e2]; exact hle.scp _ _ _ _ _ hr
        · cases hr
      · rename_i e1
        simp only [codeS, mono_codeB hle _ _ _ _ e, e1]; exact hr
    | _ => simp only [codeS, mono_codeB hle _ _ _ _ e]; exact hr
theorem mono_runB (f : FuncId) (args : List Value) (h : List Blk) (r : RR) (hr : runB P E f args h = some r) : runB P F f args h = some r := by
  simp only [runB] at hr
  split at hr
  · rename_i fn e1
    split at hr
    · rename_i c e2
      split at hr
      · rename_i e3
        rcases e : codeB P E ⟨f, fn.ntmps, h.length, none⟩ c ⟨enumT 0 args, h, []⟩ with _ | ⟨x, st'⟩
        · rw [e] at hr; cases hr
        · rw [e] at hr
          simp only [runB, e1, e2, mono_codeB hle _ _ _ _ e]; rw [if_pos e3]; exact hr
      · cases hr
    · cases hr
  · cases hr
theorem mono_rndB (l : Nat) (args : List Value) (h : List Blk) (r : RR) (hr : rndB P E l args h = some r) : rndB P F l args h = some r := by
  simp only [rndB] at hr
  split at hr
  · rename_i lp e1
    split at hr
    · rename_i σ e2 e3 e4
      rcases cond_eq_some hr with ⟨e5, hr⟩ | ⟨_, hr⟩
      · split at hr
        · rename_i st1 e6
          split at hr
          · rename_i l1 e7
            split at hr
            · rename_i e8
              split at hr
              · rename_i e st2 e9
                simp only [rndB, e1, e2, e3, e4, e5, cond_true, mono_codeB hle _ _ _ _ e6, e7, e8, mono_codeB hle _ _ _ _ e9]; exact hr
              · cases hr
            · cases hr
          · cases hr
        · cases hr
      · cases hr
    · cases hr
  · cases hr
end
theorem Le.withT {E F : Ev} (hle : Le E F) (T : Tab) : Le (withT T E) (withT T F) :=
  ⟨fun cx c st r h => hle.code cx c st r h, fun cx b c st r h => hle.scp cx b c st r h, fun f a h r hr => by
    simp only [GE.withT] at hr ⊢
    split at hr
    · rename_i x e; exact hr
    · rename_i e; exact hle.run f a h r hr, fun l a h r hr => hle.rnd l a h r hr, rfl⟩
theorem Le.step {E F : Ev} (hle : Le E F) : Le (Ev.step P E) (Ev.step P F) :=
  ⟨fun cx c st r h => mono_codeB hle cx c st r h, fun cx b c st r h => mono_codeS hle cx b c st r h, fun f a h r hr => mono_runB hle f a h r hr, fun l a h r hr => mono_rndB hle l a h r hr, hle.kp⟩
theorem evT_le (n : Nat) : Le (evT P T n) (evT P T (n + 1)) := by
  induction n with
  | zero =>
    refine ⟨fun cx c st r h => ?_, fun cx b c st r h => ?_, fun f a h r hr => ?_, fun l a h r hr => ?_, rfl⟩
    · cases h
    · cases h
    · simp only [evT, GE.withT] at hr ⊢
      split at hr
      · exact hr
      · cases hr
    · cases hr
  | succ n ih => exact (ih.step).withT T
theorem evT_mono {n m : Nat} (h : n ≤ m) {f : FuncId} {args : List Value} {hp : List Blk} {r : RR} (hr : (evT P T n).run f args hp = some r) : (evT P T m).run f args hp = some r := by
  induction h with
  | refl => exact hr
  | step _ ih => exact (evT_le _).run _ _ _ _ ih
/-- a run by the kernel serves the limit -/
theorem L_ev {n : Nat} {f : FuncId} {args : List Value} {h : List Blk} {r : RR} (hr : (evT P T n).run f args h = some r) : (L P T).run f args h = some r :=
  lim_eq ⟨n, fun m hm => evT_mono hm hr⟩
end Go.GE
