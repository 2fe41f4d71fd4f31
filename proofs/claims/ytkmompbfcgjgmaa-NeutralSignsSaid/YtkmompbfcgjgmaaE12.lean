/-
  GE, part 12: operations that call.
-/
import Derived.Test.YtkmompbfcgjgmaaE11
set_option autoImplicit false
set_option linter.unusedVariables false
set_option linter.unusedSimpArgs false
namespace Go.GE
variable {P : Program}

/-- a call comes to its end, ready to hand its value back -/
def Lv (P : Program) (f : FuncId) (cargs : Array Value) (w : World) (cv : Value) (w' : World) : Prop :=
  ∀ cs, ∃ fr, Steps P (lone (Frame.enter P f cargs .normal) cs w) (lone fr cs w') ∧ fr.fn = f ∧ fr.leaving P w' (.returned cv)
theorem Lv.ret {f : FuncId} {cargs : Array Value} {w w' : World} {cv : Value} (h : Lv P f cargs w cv w') (c : Frame) (cs : List Frame) :
    Steps P (lone (Frame.enter P f cargs .normal) (c :: cs) w) (lone (c.finish cv) cs w') := by
  obtain ⟨fr, h1, h2, h3⟩ := h (c :: cs)
  exact h1.trans (.one (step_leave_returned h3))
def Enters (P : Program) (f : FuncId) : Prop := ∀ args w, (callFunc f args).run P w = .ok (.enter f args) w
def RunOK (P : Program) (E : Ev) : Prop := ∀ f args h rr m w (cargs : Array Value), E.run f args h = some rr → HR (fun _ => True) m h w → VRL m args cargs.toList →
  ∃ cv w' m', Lv P f cargs w cv w' ∧ Enters P f ∧ VR m' rr.v cv ∧ HR (fun _ => True) m' (rr.app h) w' ∧ Ext m h.length h w (rr.ws.map (·.1)) m' (rr.app h) w' ∧ WsOk h.length rr.ws
def RndOK (P : Program) (E : Ev) : Prop := ∀ l args h rr m w (cargs : Array Value) mb, E.rnd l args h = some rr → HR (fun _ => True) m h w → m l = some mb → VRL m args cargs.toList →
  ∃ cv w' m', (∃ f tm as bd, (Instr.yield mb.blk cargs).run P w = .ok (.round mb.blk f tm as bd) w ∧ ∀ c cs, Steps P (lone (Frame.round mb.blk f tm as bd .normal) (c :: cs) w) (lone (c.finish cv) cs w')) ∧
    VR m' rr.v cv ∧ HR (fun _ => True) m' (rr.app h) w' ∧ Ext m h.length h w (rr.ws.map (·.1)) m' (rr.app h) w' ∧ WsOk h.length rr.ws
section
variable {E : Ev} {V : Nat → Prop} {m : Mp} {h : List Blk} {w : World} {r : OR}
theorem mergeB_rd {ρ : List Nat} {rr : RR} (he : mergeB h ρ rr = some r) : r.rd = ρ := by
  unfold mergeB at he
  simp only at he
  split at he
  · cases he; rfl
  · cases he
theorem callH0_spec (hE : RunOK P E) (hr : HR V m h w) {f : FuncId} {args : List Value} {cargs : Array Value} (hl : VRL m args cargs.toList) (he : callH0 E f args h = some r) (hrd : ∀ b, b ∈ r.rd → V b) :
    ∃ cv w' m', Lv P f cargs w cv w' ∧ Enters P f ∧ VR m' r.v cv ∧ HR (fun b => V b ∨ h.length ≤ b) m' r.h w' ∧ Ext m h.length h w r.wr m' r.h w' := by
  unfold callH0 at he
  simp only at he
  generalize hρ : reach h 0 reachN (args.flatMap (ptrV dep)) [] = ρ at he
  have hnd := (reach_spec h 0 reachN (args.flatMap (ptrV dep)) [] List.nodup_nil (by simp)).1
  rw [hρ] at hnd
  split at he
  · rename_i args' hm h1 h2
    have h2' : optAll (pickB h (idx ρ)) ρ = some hm := h2
    split at he
    · rename_i rr h3
      have hV : ∀ b, b ∈ ρ → V b := fun b hb => hrd b (by rw [mergeB_rd he]; exact hb)
      have hm1 := marshal hr hnd hV h2'
      obtain ⟨cv, w', m', q1, q2, q3, q4, q5, q6⟩ := hE f args' hm rr (mini m ρ) w cargs h3 hm1 (VRL.ren (mini_ren ρ) hl _ _ h1)
      obtain ⟨m2, r1, r2, r3⟩ := merge hr hnd hV h2' q4 q5 q6 q3 he
      exact ⟨cv, w', m2, q1, q2, r1, r2, r3⟩
    · cases he
  · cases he
theorem fixV_spec {n k : Nat} {v v' cv : Value} (he : fixV n k v = some v') (hv : VR m v cv) : VR m v' cv := by
  unfold fixV at he
  split at he
  · cases he; cases hv; exact .nil0
  · rename_i cs
    split at he
    · rename_i e
      cases he
      cases hv with
      | agg hl =>
        rename_i ccs
        refine .agg ?_
        have key : ∀ {l cl : List Value} {k : Nat}, VRL m l cl → l[k]? = some (.slice none 0 0) → VRL m (l.set k (.slice (some ⟨n, 0, none⟩) 0 0)) cl := by
          intro l
          induction l with
          | nil => intro cl k _ h; simp at h
          | cons a l ih =>
            intro cl k hl hk
            cases hl with
            | cons h1 h2 =>
              cases k with
              | zero => simp at hk; subst hk; cases h1; exact .cons .nil0 h2
              | succ k => exact .cons h1 (ih h2 (by simpa using hk))
        simpa using key hl e
    · cases he
  · cases he
theorem HR.more1 (hr : HR V m h w) (b : Blk) : HR V m (h ++ [b]) w := by
  refine ⟨fun c mb hc => by have := hr.dom c mb hc; rw [List.length_append]; omega, fun c mb blk hv hc hx => ?_, fun b1 b2 mb1 mb2 x1 x2 hne v1 v2 h1 h2 y1 y2 l1 l2 ho => ?_⟩
  · have hlt := (hr.dom c mb hc).1
    rw [List.getElem?_append_left hlt] at hx
    exact hr.blk c mb blk hv hc hx
  · have g1 := (hr.dom _ _ h1).1
    have g2 := (hr.dom _ _ h2).1
    rw [List.getElem?_append_left g1] at y1
    rw [List.getElem?_append_left g2] at y2
    exact hr.inj b1 b2 mb1 mb2 x1 x2 hne v1 v2 h1 h2 y1 y2 l1 l2 ho
theorem VRL.set {l cl : List Value} (hl : VRL m l cl) {t : Nat} {v' : Value} (h : ∀ v cv, l[t]? = some v → cl[t]? = some cv → VR m v cv → VR m v' cv) : VRL m (l.set t v') cl := by
  induction l generalizing cl t with
  | nil => cases hl; exact .nil
  | cons a l ih =>
    cases hl with
    | cons h1 h2 =>
      cases t with
      | zero => exact .cons (h _ _ rfl rfl h1) h2
      | succ t => exact .cons h1 (ih h2 fun v cv e1 e2 e3 => h v cv (by simpa using e1) (by simpa using e2) e3)
theorem fixA_spec {cl : List Value} : ∀ {l : List NilH} {a : List Value} {h : List Blk}, HR V m h w → VRL m a cl → HR V m (fixA l a h).2 w ∧ VRL m (fixA l a h).1 cl ∧ ∃ es, (fixA l a h).2 = h ++ es := by
  intro l
  induction l with
  | nil => intro a h hr hl; exact ⟨hr, hl, [], by simp [fixA]⟩
  | cons x l ih =>
    intro a h hr hl
    simp only [fixA]
    split
    · rename_i v' e
      rw [Option.bind_eq_some_iff] at e
      obtain ⟨v, e1, e2⟩ := e
      obtain ⟨q1, q2, es, q3⟩ := ih (a := a.set x.t v') (h := h ++ [emptyB x]) (hr.more1 _) (hl.set fun v2 cv h1 _ h3 => by rw [e1] at h1; cases h1; exact fixV_spec e2 h3)
      exact ⟨q1, q2, emptyB x :: es, by rw [q3]; simp⟩
    · exact ih hr hl
theorem Ext.app {m' : Mp} {es h' : List Blk} {w' : World} {wr : List Nat} (hd : ∀ b mb, m b = some mb → b < h.length) (he : Ext m (h ++ es).length (h ++ es) w wr m' h' w') : Ext m h.length h w wr m' h' w' where
  old b hb := he.old b (by simp; omega)
  size := he.size
  same cb hc ht := he.same cb hc fun b mb hb hm ho hl => ht b mb hb hm ho (by
    obtain ⟨x, hx, hl⟩ := hl
    rw [List.getElem?_append_left (hd b mb hm)] at hx
    exact ⟨x, hx, hl⟩)
  fresh b mb hb hm hs := by
    by_cases hlt : b < (h ++ es).length
    · rw [he.old b hlt] at hm
      have := hd b mb hm
      omega
    · obtain ⟨b0, mb0, q1, q2, q3, q4, q5⟩ := he.fresh b mb (by omega) hm hs
      obtain ⟨x, hx, hl⟩ := q4
      rw [List.getElem?_append_left (hd b0 mb0 q2)] at hx
      exact ⟨b0, mb0, q1, q2, q3, ⟨x, hx, hl⟩, q5⟩
  len := by have := he.len; simp at this; omega
  keep b hb hn := by rw [he.keep b (by simp; omega) hn, List.getElem?_append_left hb]
  live b hb hl := by
    obtain ⟨x, hx, hl⟩ := he.live b (by simp; omega) hl
    rw [List.getElem?_append_left hb] at hx
    exact ⟨x, hx, hl⟩
  qt := he.qt
theorem callH_spec (hE : RunOK P E) (hr : HR V m h w) {f : FuncId} {args : List Value} {cargs : Array Value} (hl : VRL m args cargs.toList) (he : callH E f args h = some r) (hrd : ∀ b, b ∈ r.rd → V b) :
    ∃ cv w' m', Lv P f cargs w cv w' ∧ Enters P f ∧ VR m' r.v cv ∧ HR (fun b => V b ∨ h.length ≤ b) m' r.h w' ∧ Ext m h.length h w r.wr m' r.h w' := by
  unfold callH at he
  split at he
  · exact callH0_spec hE hr hl he hrd
  · rename_i K hK
    rw [Option.map_eq_some_iff] at he
    obtain ⟨r0, h0, rfl⟩ := he
    have hr' : HR (fun b => V b ∨ h.length ≤ b) m h w := by
      refine ⟨hr.dom, fun b mb blk hv hm hx => ?_, fun b1 b2 mb1 mb2 x1 x2 hne v1 v2 h1 h2 y1 y2 l1 l2 ho => ?_⟩
      · have := (hr.dom b mb hm).1
        rcases hv with hv | hv
        · exact hr.blk b mb blk hv hm hx
        · omega
      · have g1 := (hr.dom _ _ h1).1
        have g2 := (hr.dom _ _ h2).1
        exact hr.inj b1 b2 mb1 mb2 x1 x2 hne (v1.resolve_right (by omega)) (v2.resolve_right (by omega)) h1 h2 y1 y2 l1 l2 ho
    obtain ⟨q1, q2, es, q3⟩ := fixA_spec (l := K.nils) hr' hl
    rw [q3] at q1 h0
    obtain ⟨cv, w', m', p1, p2, p3, p4, p5⟩ := callH0_spec hE q1 q2 h0 (fun b hb => by
      by_cases hlt : b < h.length
      · exact .inl (hrd b (by simp only [List.mem_filter]; exact ⟨hb, GE.blt_iff.2 hlt⟩))
      · exact .inr (by omega))
    refine ⟨cv, w', m', p1, p2, p3, p4.sub fun b hb => ?_, p5.app fun b mb hm => (hr.dom b mb hm).1⟩
    rcases hb with hb | hb
    · exact .inl (.inl hb)
    · exact .inl (.inr hb)
theorem yieldH_spec (hE : RndOK P E) (hr : HR V m h w) {l : Nat} {args : List Value} {cargs : Array Value} {mb : MB} (hml : m l = some mb) (hl : VRL m args cargs.toList) (he : yieldH E l args h = some r) (hrd : ∀ b, b ∈ r.rd → V b) :
    ∃ cv w' m', (∃ f tm as bd, (Instr.yield mb.blk cargs).run P w = .ok (.round mb.blk f tm as bd) w ∧ ∀ c cs, Steps P (lone (Frame.round mb.blk f tm as bd .normal) (c :: cs) w) (lone (c.finish cv) cs w')) ∧
      VR m' r.v cv ∧ HR (fun b => V b ∨ h.length ≤ b) m' r.h w' ∧ Ext m h.length h w r.wr m' r.h w' := by
  unfold yieldH at he
  simp only at he
  generalize hρ : reach h 0 reachN (l :: args.flatMap (ptrV dep)) [] = ρ at he
  have hnd := (reach_spec h 0 reachN (l :: args.flatMap (ptrV dep)) [] List.nodup_nil (by simp)).1
  rw [hρ] at hnd
  split at he
  · rename_i l' args' hm h0 h1 h2
    have h2' : optAll (pickB h (idx ρ)) ρ = some hm := h2
    split at he
    · rename_i rr h3
      have hV : ∀ b, b ∈ ρ → V b := fun b hb => hrd b (by rw [mergeB_rd he]; exact hb)
      have hm1 := marshal hr hnd hV h2'
      obtain ⟨cv, w', m', q1, q3, q4, q5, q6⟩ := hE l' args' hm rr (mini m ρ) w cargs mb h3 hm1 (mini_ren ρ l l' mb h0 hml) (VRL.ren (mini_ren ρ) hl _ _ h1)
      obtain ⟨m2, r1, r2, r3⟩ := merge hr hnd hV h2' q4 q5 q6 q3 he
      exact ⟨cv, w', m2, q1, r1, r2, r3⟩
    · cases he
  · cases he
theorem callH_opRes {a : Act} {o : Oper} (hE : RunOK P E) (hr : HR V m h w) {f : FuncId} {args : List Value} {cargs : Array Value} (hl : VRL m args cargs.toList) (he : callH E f args h = some r) (hrd : ∀ b, b ∈ r.rd → V b)
    (hrun : ∀ w, (callFunc f cargs).run P w = .ok (.enter f cargs) w → (execOp a.eval o).run P w = .ok (.enter f cargs) w) : OpRes P a o V m h w r := by
  obtain ⟨cv, w', m', q1, q2, q3, q4, q5⟩ := callH_spec hE hr hl he hrd
  exact ⟨cv, w', m', .inr (.inr (.inl ⟨f, cargs, w, hrun w (q2 cargs w), q1.ret⟩)), q3, q4, q5⟩
/-- a call of a function value, as an operation or as a range over a function makes it -/
theorem callV_cases (hE : RunOK P E) (hE2 : RndOK P E) (hr : HR V m h w) {fv cfv : Value} {args : List Value} {cargs : Array Value} (hf : VR m fv cfv) (hl : VRL m args cargs.toList) (he : callV P E h fv args = some r) (hrd : ∀ b, b ∈ r.rd → V b) :
    ∃ fn first cap d, cfv = .func fn first cap ∧ d = ({ target := .fn fn cap, args := first ++ cargs } : Deferred) ∧ ∃ cv w' m', VR m' r.v cv ∧ HR (fun b => V b ∨ h.length ≤ b) m' r.h w' ∧ Ext m h.length h w r.wr m' r.h w' ∧
      ((∃ g as, (invoke d.target d.args).run P w = .ok (.enter g as) w ∧ ∀ c cs, Steps P (lone (Frame.enter P g as .normal) (c :: cs) w) (lone (c.finish cv) cs w')) ∨
       (∃ l f tm as bd, (invoke d.target d.args).run P w = .ok (.round l f tm as bd) w ∧ ∀ c cs, Steps P (lone (Frame.round l f tm as bd .normal) (c :: cs) w) (lone (c.finish cv) cs w'))) := by
  unfold callV at he
  split at he
  · rename_i g first captured
    cases hf with
    | func hfn h1 h2 =>
      rename_i fn' first' cap'
      cases hfn
      refine ⟨_, first', cap', _, rfl, rfl, ?_⟩
      have hl' : VRL m (first.toList ++ args ++ captured.toList) (first' ++ cargs ++ cap').toList := by
        simpa using (h1.append hl).append h2
      obtain ⟨cv, w', m', q1, q2, q3, q4, q5⟩ := callH_spec hE hr hl' he hrd
      exact ⟨cv, w', m', q3, q4, q5, .inl ⟨g, _, q2 _ w, q1.ret⟩⟩
  · rename_i l first captured
    cases hf with
    | func hfn h1 h2 =>
      rename_i fn' first' cap'
      cases hfn with
      | yield hm =>
        rename_i mb
        refine ⟨_, first', cap', _, rfl, rfl, ?_⟩
        have hl' : VRL m (first.toList ++ args) (first' ++ cargs).toList := by simpa using h1.append hl
        obtain ⟨cv, w', m', ⟨f, tm, as, bd, q1, q2⟩, q3, q4, q5⟩ := yieldH_spec hE2 hr hm hl' he hrd
        exact ⟨cv, w', m', q3, q4, q5, .inr ⟨_, f, tm, as, bd, q1, q2⟩⟩
  · cases he
theorem methodA_spec {t : TypeId} {v : Value} {name : String} {f : FuncId} {v' : Value} (he : methodA P t v name = some (f, v')) (cv : Value) (n : Nat) (w : World) : v' = v ∧ (method (n + 1) t cv name).run P w = .ok (f, cv) w := by
  unfold methodA at he
  split at he
  · rename_i i hi
    split at he
    · rename_i mt hmt
      rcases cond_eq_some he with ⟨hp, he⟩ | ⟨_, he⟩
      · have hp' : mt.path.toList = [] := by
          have : mt.path = #[] := by simpa using hp
          rw [this]
        split at he
        · rename_i g hg
          split at he
          · cases he
          · rename_i d hn hd
            cases he
            refine ⟨rfl, ?_⟩
            simp only [method, Sem.run_bind, run_typeInfo' hi, Result.andThen_ok, hmt, hp', follow, Sem.run_pure, hg, receiverAt, run_underlying' hd]
            cases d <;> first | exact absurd hd (by rw [hd]; exact fun _ => hn _ rfl) | rfl
          · cases he
        · rename_i g hg
          split at he
          · rename_i e hd
            cases he
            refine ⟨rfl, ?_⟩
            simp only [method, Sem.run_bind, run_typeInfo' hi, Result.andThen_ok, hmt, hp', follow, Sem.run_pure, hg, receiverAt, run_underlying' hd, Place.get]
          · cases he
        · cases he
      · cases he
    · cases he
  · cases he
theorem aop_call {a : Act} {o : Oper} {σ : Tm} {c : Call} (hE : RunOK P E) (hE2 : RndOK P E) (hop : o.op = .call c) (hr : HR V m h w) (ho : OpdR m σ a o)
    (he : (match opds σ c.args.toList with
    | some args => match c.callee with
      | .builtin b => builtinA P h b c.argTypes.toList args
      | .value f => (opd σ f).bind fun fv => callV P E h fv args
      | .invoke r name => match opd σ r with
        | some (.iface t v) => match methodA P t v name with
          | some (f, v') => callH E f (v' :: args) h
          | none => none
        | _ => none
    | none => none) = some r) (hrd : ∀ b, b ∈ r.rd → V b) : OpRes P a o V m h w r := by
  split at he
  · rename_i args hargs
    have hmem : ∀ x, x ∈ c.args.toList → x ∈ o.op.operands.toList := by
      intro x hx
      simp only [Op.operands, hop, Call.operands, Array.toList_append, List.mem_append]
      exact .inr hx
    have hl : VRL m args (c.args.map a.eval).toList := by
      simpa using opds_vrl (a := a) (fun x hx => ho x (hmem x hx)) hargs
    split at he
    · rename_i b hc
      exact aop_builtin hop hc hr ho hargs he hrd
    · rename_i f hc
      cases hf : opd σ f with
      | none => rw [hf] at he; cases he
      | some fv =>
        rw [hf] at he
        simp only [Option.bind_some] at he
        have hfv := ho f (by simp [Op.operands, hop, Call.operands, hc]) fv hf
        obtain ⟨fn, first, cap, d, h1, h2, cv, w', m', q1, q2, q3, q4⟩ := callV_cases hE hE2 hr hfv hl he hrd
        have hexec : (execOp a.eval o).run P w = (invoke d.target d.args).run P w := by
          simp only [execOp, hop, resolve, hc, h1, Deferred.ofValue, Sem.run_bind, Sem.run_pure, Result.andThen_ok, h2]
        rcases q4 with ⟨g, as, g1, g2⟩ | ⟨l, f, tm, as, bd, g1, g2⟩
        · exact ⟨cv, w', m', .inr (.inr (.inl ⟨g, as, w, hexec.trans g1, g2⟩)), q1, q2, q3⟩
        · exact ⟨cv, w', m', .inr (.inr (.inr ⟨l, f, tm, as, bd, w, hexec.trans g1, g2⟩)), q1, q2, q3⟩
    · rename_i rc name hc
      split at he
      · rename_i t v hrc
        split at he
        · rename_i f v' hme
          have hrv := ho rc (by simp [Op.operands, hop, Call.operands, hc]) _ hrc
          generalize hcr : a.eval rc = cr at hrv
          cases hrv with
          | iface _ hv =>
            rename_i cv
            obtain ⟨k, hk⟩ : ∃ k, P.types.size + Made.depth = k + 1 := ⟨P.types.size + Made.depth - 1, by have : 1 ≤ Made.depth := by decide
                                                                                                          omega⟩
            obtain ⟨rfl, hmrun⟩ := methodA_spec (P := P) hme cv k w
            refine callH_opRes hE hr (cargs := #[cv] ++ c.args.map a.eval) (by simpa using VRL.cons hv hl) he hrd fun w hcall => ?_
            have hm2 := (methodA_spec (P := P) hme cv k w).2
            simp only [execOp, hop, resolve, hc, hcr, Sem.run_bind, Sem.run_pure, Result.andThen_ok, invoke, callMethod, run_program, hk]
            simp only [Array.getElem?_append_left (show 0 < (#[Value.iface t cv]).size by simp)]
            simp only [List.getElem?_toArray, List.getElem?_cons_zero, callMethod, Sem.run_bind, run_program, Result.andThen_ok, hk, hm2]
            have hext : (#[Value.iface t cv] ++ Array.map a.eval c.args).extract 1 (#[Value.iface t cv] ++ Array.map a.eval c.args).size = Array.map a.eval c.args := by
              simp [Array.extract_append]
            rw [hext]
            exact hcall
        · cases he
      · cases he
  · cases he
end
end Go.GE
