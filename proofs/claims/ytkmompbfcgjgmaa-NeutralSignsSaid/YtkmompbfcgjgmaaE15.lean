/-
  GE, part 15: whole calls, whole rounds.
-/
import Derived.Test.YtkmompbfcgjgmaaE14
set_option autoImplicit false
set_option linter.unusedVariables false
set_option linter.unusedSimpArgs false
namespace Go.GE
variable {P : Program}

/-! ### the deferred calls that range over functions have left -/
def unw (w : World) : List Nat → World
  | [] => w
  | r :: rs => unw (w.putObj r (.deferred none)) rs
theorem unwind_ds {fr : Frame} {cs : List Frame} (hm : fr.mode = .returning) : ∀ (rs : List Nat) (w : World), rs.Nodup → (∀ r, r ∈ rs → w.heap[r]? = some (.deferred (some []))) →
    Steps P (lone { fr with defers := dsOf rs } cs w) (lone { fr with defers := [] } cs (unw w rs)) := by
  intro rs
  induction rs with
  | nil => intro w _ _; exact .refl _ _
  | cons r rs ih =>
    intro w hn ha
    have hn' := List.nodup_cons.1 hn
    have h1 := step_collected (P := P) (fr := { fr with defers := dsOf (r :: rs) }) (cs := cs) (w := w) (d := { target := .collected r, args := #[] }) (r := r) (ds := dsOf rs) (by simp [hm]) rfl rfl (run_takeDeferred (ha r (by simp)))
    refine .head h1 (ih (w.putObj r (.deferred none)) hn'.2 fun x hx => ?_)
    have hne : x ≠ r := fun e => by subst e; exact hn'.1 hx
    rw [World.putObj_heap_other hne]; exact ha x (by simp [hx])
theorem unw_size : ∀ (rs : List Nat) (w : World), (unw w rs).heap.size = w.heap.size := by
  intro rs
  induction rs with
  | nil => intro w; rfl
  | cons r rs ih => intro w; simp only [unw, ih]; simp
theorem unw_quiet : ∀ (rs : List Nat) (w : World), Quiet w (unw w rs) := by
  intro rs
  induction rs with
  | nil => intro w; exact .refl w
  | cons r rs ih => intro w; exact Quiet.trans (b := w.putObj r (.deferred none)) ⟨rfl, rfl, rfl⟩ (ih (w.putObj r (.deferred none)))
theorem unw_other : ∀ (rs : List Nat) (w : World) (c : Nat), c ∉ rs → (unw w rs).heap[c]? = w.heap[c]? := by
  intro rs
  induction rs with
  | nil => intro w c _; rfl
  | cons r rs ih =>
    intro w c hc
    have h1 : c ≠ r := fun e => hc (by simp [e])
    simp only [unw, ih _ c fun h => hc (by simp [h]), World.putObj_heap_other h1]
theorem HR.off {m : Mp} {h : List Blk} {w w' : World} {V : Nat → Prop} (hr : HR V m h w) (hs : w'.heap.size = w.heap.size) (hw : ∀ b mb, m b = some mb → w'.heap[mb.blk]? = w.heap[mb.blk]?) : HR V m h w' where
  dom b mb hm := by rw [hs]; exact hr.dom b mb hm
  blk b mb blk hv hm hb := (hr.blk b mb blk hv hm hb).world (hw b mb hm)
  inj := hr.inj

/-! ### results -/
def resG (tm : Array Value) : ResultVar → Sem Value
  | .tmp t => pure (tm.getD t undef)
  | .cell a t => do loadVar t (← asAddr (tm.getD a undef))
theorem results_resG (fn : Func) (tm : Array Value) : results fn tm = (do let vs ← fn.results.mapM (resG tm); pure (if h : vs.size = 1 then vs[0] else .tuple vs)) := rfl
theorem results_spec {nt : Nat} {m0 m : Mp} {h0 : List Blk} {w0 w : World} {rs : List Nat} {st : St} {tm : Array Value} {fn : Func} {vs : List Value} (hs : SR nt m0 h0 w0 rs m st tm w) (he : resultsA P fn.results.toList st = some vs) :
    ∃ cv, (results fn tm).run P w = .ok cv w ∧ VR m (tupV vs) cv := by
  unfold resultsA at he
  have key : ∀ (l : List ResultVar) (vs : List Value), optAll (fun
      | .tmp t => lk st.σ t
      | .cell a t => match lk st.σ a with
        | some (.pointer (some ⟨b, o, none⟩)) => loadA P st.h t b o
        | _ => none) l = some vs → ∃ cvs, VRL m vs cvs ∧ (l.mapM (resG tm)).run P w = .ok cvs w := by
    intro l
    induction l with
    | nil => intro vs hv; cases hv; exact ⟨[], .nil, rfl⟩
    | cons r l ih =>
      intro vs hv
      obtain ⟨v, vs', h1, h2, rfl⟩ := optAll_cons hv
      obtain ⟨cvs, q1, q2⟩ := ih vs' h2
      have hone : ∃ cv, VR m v cv ∧ (resG tm r).run P w = .ok cv w := by
        cases r with
        | tmp t =>
          obtain ⟨cv, k1, k2⟩ := hs.tmr t v h1
          refine ⟨cv, k2, ?_⟩
          simp [resG, Array.getD_eq_getD_getElem?, k1]
        | cell a t =>
          simp only at h1
          split at h1
          · rename_i b o hl
            obtain ⟨cp, k1, k2⟩ := hs.tmr a _ hl
            obtain ⟨mb, k3, rfl⟩ := vr_ptr_inv k2
            obtain ⟨cv, k4, k5⟩ := loadVar_spec hs.hr trivial k3 h1
            refine ⟨cv, k5, ?_⟩
            simp only [resG, Array.getD_eq_getD_getElem?, k1, Option.getD_some, asAddr, Sem.run_bind, Sem.run_pure, Result.andThen_ok, k4]
          · cases h1
      obtain ⟨cv, q3, q4⟩ := hone
      refine ⟨cv :: cvs, .cons q3 q1, ?_⟩
      rw [List.mapM_cons]
      simp only [Sem.run_bind, q4, Result.andThen_ok, q2, Sem.run_pure]
  obtain ⟨cvs, q1, q2⟩ := key _ _ he
  refine ⟨if h : cvs.length = 1 then cvs[0] else .tuple cvs.toArray, ?_, ?_⟩
  · rw [results_resG, Array.mapM_eq_mapM_toList, map_eq_pure_bind]
    simp only [Sem.run_bind, q2, Result.andThen_ok, Sem.run_pure]
    simp
  · have hl := q1.length
    unfold tupV
    split
    · rename_i v
      cases q1 with
      | cons a b => cases b; exact a
    · rename_i hne
      rw [dif_neg]
      · exact .tuple (by simpa using q1)
      · intro h1
        rw [hl] at h1
        obtain ⟨x, hx⟩ := List.length_eq_one_iff.1 h1
        exact hne x hx

/-! ### a call -/
theorem enumT_lk : ∀ (vs : List Value) (i t : Nat) (v : Value), lk (enumT i vs) t = some v → i ≤ t ∧ vs[t - i]? = some v := by
  intro vs
  induction vs with
  | nil => intro i t v h; cases h
  | cons x vs ih =>
    intro i t v h
    simp only [enumT, lk] at h
    rcases cond_eq_some h with ⟨h1, h2⟩ | ⟨h1, h2⟩
    · have := beq_iff.1 h1; subst this; cases h2; simp
    · obtain ⟨q1, q2⟩ := ih _ _ _ h2
      refine ⟨by omega, ?_⟩
      rw [show t - i = (t - (i + 1)) + 1 by omega]; exact q2
theorem enumT_keys : ∀ (vs : List Value) (i : Nat), (enumT i vs).map (·.1) = List.range' i vs.length := by
  intro vs
  induction vs with
  | nil => intro i; rfl
  | cons x vs ih => intro i; simp [enumT, ih, List.range'_succ]
theorem run_ok {E : Ev} (hE : EvOK P E) : RunOK P (Ev.step P E) := by
  intro f args h rr m w cargs he hr hl
  simp only [Ev.step, runB] at he
  split at he
  case h_2 => cases he
  rename_i fn hfn
  split at he
  case h_2 => cases he
  rename_i c hc
  split at he
  case isFalse => cases he
  rename_i hlen
  obtain ⟨hlen, hname⟩ := hlen
  have hent : Enters P f := by
    intro as w'
    unfold callFunc
    simp only [Sem.run_bind, run_program, Result.andThen_ok, hfn]
    have : (fn.name == "runtime.NumGoroutine") = false := by simpa using hname
    simp [this, hc]
  let b : Frame := { (default : Frame) with fn := f, kind := .normal, roundOf := none }
  let tm := cargs ++ Array.replicate (fn.ntmps - cargs.size) undef
  have hfr : ∀ cs, lone (Frame.enter P f cargs .normal) cs w = lone (b.atR ⟨tm, dsOf []⟩ [.code c]) cs w := by
    intro cs
    simp [Frame.enter, Frame.atR, hfn, hc, b, tm, dsOf]
  have hcl : cargs.size = args.length := by simpa using hl.length
  have htr : TmR m (enumT 0 args) tm := by
    intro t v hv
    obtain ⟨_, hv⟩ := enumT_lk _ _ _ _ hv
    obtain ⟨cv, k1, k2⟩ := hl.get _ v hv
    refine ⟨cv, ?_, k2⟩
    have hlt : t < cargs.size := by have := (List.getElem?_eq_some_iff.1 hv).1; omega
    rw [Array.getElem?_append_left hlt]; simpa using k1
  have hs : SR fn.ntmps m h w [] m ⟨enumT 0 args, h, []⟩ tm w :=
    ⟨htr, by unfold ND; rw [enumT_keys]; exact List.nodup_range', by simp only [tm, Array.size_append, Array.size_replicate]; omega, hr, Ext.refl m h w fun b mb hb => (hr.dom b mb hb).1, (fun b hb => by cases hb), ⟨List.nodup_nil, (fun r hr => by cases hr), (fun r hr => by cases hr), (fun r hr => by cases hr)⟩⟩
  have hfin : ∀ e st, codeB P E ⟨f, fn.ntmps, h.length, none⟩ c ⟨enumT 0 args, h, []⟩ = some (e, st) → (e = .normal ∨ e = .ret) → (match resultsA P fn.results.toList st with
      | some vs => finish h.length (tupV vs) st.h st.wr
      | none => none) = some rr →
      ∃ cv w' m', Lv P f cargs w cv w' ∧ Enters P f ∧ VR m' rr.v cv ∧ HR (fun _ => True) m' (rr.app h) w' ∧ Ext m h.length h w (rr.ws.map (·.1)) m' (rr.app h) w' ∧ WsOk h.length rr.ws := by
    intro e st hcode hee hfin
    split at hfin
    case h_2 => cases hfin
    rename_i vs hvs
    obtain ⟨rs1, m1, tm1, w1, q1, q2, q3⟩ := codeB_spec hE _ c _ _ _ hcode m h w [] m tm w b ⟨rfl, rfl, fun _ => rfl, fun l hl => by cases hl⟩ hr hs
    -- the frame leaves
    have hret : ∀ cs, ∃ fr, fr.mode = .returning ∧ fr.defers = dsOf rs1 ∧ fr.kind = .normal ∧ fr.fn = f ∧ fr.tmps = tm1 ∧ Steps P (lone (Frame.enter P f cargs .normal) cs w) (lone fr cs w1) := by
      intro cs
      have h3 := q3 (.code c) [] cs (.code c)
      rw [hfr]
      rcases hee with rfl | rfl
      · exact ⟨_, rfl, rfl, rfl, rfl, rfl, h3.trans (.one (stepR_end (b := b) rfl))⟩
      · obtain ⟨k', h3⟩ := h3
        exact ⟨_, rfl, rfl, rfl, rfl, rfl, h3.trans (.one (stepR_ret (b := b) rfl))⟩
    have hoff : ∀ b mb, m1 b = some mb → (unw w1 rs1).heap[mb.blk]? = w1.heap[mb.blk]? := fun b mb hm => unw_other _ _ _ fun hin => q1.ds.off _ hin b mb hm rfl
    have hr2 : HR (fun _ => True) m1 st.h (unw w1 rs1) := q1.hr.off (unw_size _ _) hoff
    have hx2 : Ext m h.length h w st.wr m1 st.h (unw w1 rs1) :=
      ⟨q1.ext.old, by rw [unw_size]; exact q1.ext.size, fun cb hcb ht => by
        rw [unw_other _ _ _ fun hin => by have := q1.ds.new _ hin; omega]
        exact q1.ext.same cb hcb ht, q1.ext.fresh, q1.ext.len, q1.ext.keep, q1.ext.live, q1.ext.qt.trans (unw_quiet _ _)⟩
    have hs2 : SR fn.ntmps m h w [] m1 st tm1 (unw w1 rs1) :=
      ⟨q1.tmr, q1.nd, q1.size, hr2, hx2, q1.wr, ⟨List.nodup_nil, (fun r hr => by cases hr), (fun r hr => by cases hr), (fun r hr => by cases hr)⟩⟩
    obtain ⟨cv, v1, v2⟩ := results_spec hs2 hvs
    obtain ⟨m', z1, z2, z3, z4⟩ := finish_spec hr hr2 hx2 q1.wr v2 hfin
    refine ⟨cv, unw w1 rs1, m', fun cs => ?_, hent, z1, z2, z3, z4⟩
    obtain ⟨fr, g1, g2, g3, g4, g5, g6⟩ := hret cs
    have hu := unwind_ds (P := P) (fr := fr) (cs := cs) g1 rs1 w1 q1.ds.nodup q1.ds.at_
    rw [← g2] at hu
    exact ⟨{ fr with defers := [] }, g6.trans hu, g4, g1, rfl, g3, fn, by rw [← g4] at hfn; exact hfn, by rw [← g5] at v1; exact v1⟩
  split at he
  · rename_i st hcode; exact hfin _ _ hcode (.inl rfl) he
  · rename_i st hcode; exact hfin _ _ hcode (.inr rfl) he
  · cases he

/-! ### a round -/
theorem putAll_spec {m : Mp} : ∀ (ts : List Nat) (vs cvs : List Value) (σ σ' : Tm) (tm : Array Value), TmR m σ tm → VRL m vs cvs → (∀ t, t ∈ ts → t < tm.size) → putAll σ ts vs = some σ' →
    TmR m σ' ((ts.zip cvs).foldl (fun (tmps : Array Value) (p : Nat × Value) => tmps.setIfInBounds p.1 p.2) tm) ∧ ((ts.zip cvs).foldl (fun (tmps : Array Value) (p : Nat × Value) => tmps.setIfInBounds p.1 p.2) tm).size = tm.size ∧ ts.length = cvs.length := by
  intro ts
  induction ts with
  | nil =>
    intro vs cvs σ σ' tm ht hl _ he
    cases vs with
    | nil => cases hl; cases he; exact ⟨ht, rfl, rfl⟩
    | cons v vs => cases he
  | cons t ts ih =>
    intro vs cvs σ σ' tm ht hl hlt he
    cases vs with
    | nil => cases he
    | cons v vs =>
      cases hl with
      | cons hv hl =>
        rename_i cv cvs
        simp only [putAll] at he
        have h1 : TmR m (put σ t v) (tm.setIfInBounds t cv) := by
          have := put_tmr (a := ⟨tm, []⟩) (dst := some t) ht hv fun u hu => by cases hu; exact hlt t (by simp)
          exact this
        obtain ⟨q1, q2, q3⟩ := ih vs cvs _ σ' (tm.setIfInBounds t cv) h1 hl (fun u hu => by simpa using hlt u (by simp [hu])) he
        exact ⟨q1, by rw [List.zip_cons_cons, List.foldl_cons, q2]; simp, by simp [q3]⟩
theorem rnd_ok {E : Ev} (hE : EvOK P E) : RndOK P (Ev.step P E) := by
  intro l args h rr m w cargs mb he hr hml hl
  simp only [Ev.step, rndB] at he
  split at he
  case h_2 => cases he
  rename_i L hL
  split at he
  case h_2 => cases he
  rename_i σ hst hpd hput
  rcases cond_eq_some he with ⟨hc, he⟩ | ⟨_, he⟩
  case inr => cases he
  simp only [Bool.and_eq_true] at hc
  obtain ⟨hpar, hnd⟩ := hc
  obtain ⟨_, cl, c1, c2⟩ := hr.blk l mb _ trivial hml hL
  have hll : l < h.length := (hr.dom l mb hml).1
  obtain ⟨p1, p2, p3⟩ := putAll_spec (m := m) L.params.toList args cargs.toList L.σ σ cl.tmps c2.tmps hl (fun t ht => by
    rw [c2.size]; exact blt_iff.1 (List.all_eq_true.1 hpar t ht)) hput
  have hfold : ((cl.params.zip cargs).foldl (fun (tmps : Array Value) (x : Nat × Value) => match x with | (t, a) => tmps.setIfInBounds t a) cl.tmps) = (L.params.toList.zip cargs.toList).foldl (fun (tmps : Array Value) (p : Nat × Value) => tmps.setIfInBounds p.1 p.2) cl.tmps := by
    rw [← c2.params, ← Array.toList_zip, Array.foldl_toList]
  generalize htm : (L.params.toList.zip cargs.toList).foldl (fun (tmps : Array Value) (p : Nat × Value) => tmps.setIfInBounds p.1 p.2) cl.tmps = tm at p1 p2 hfold
  let b : Frame := { (default : Frame) with fn := L.fn, kind := .normal, roundOf := some mb.blk }
  have hyield : (Instr.yield mb.blk cargs).run P w = .ok (.round mb.blk L.fn tm L.assign L.body) w := by
    have := run_yield (P := P) (args := cargs) c1 (by rw [c2.params]; simpa using p3.symm)
    rw [this, c2.fn, c2.assign, c2.body]
    congr 2
  have hframe : ∀ (c : Frame) cs w, lone (Frame.round mb.blk L.fn tm L.assign L.body .normal) (c :: cs) w = lone (b.atR ⟨tm, dsOf []⟩ [.code L.assign, .beginRound, .code L.body]) (c :: cs) w := by
    intro c cs w
    simp [Frame.round, Frame.atR, b, dsOf]
  have hfr : FrOK ⟨L.fn, L.size, h.length, some l⟩ m h b := ⟨rfl, rfl, fun hh => (by cases hh), fun q hq => by cases hq; exact ⟨hll, mb, hml, rfl⟩⟩
  have hs : SR L.size m h w [] m ⟨σ, h, []⟩ tm w :=
    ⟨p1, ndk_iff hnd, p2.trans c2.size, hr, Ext.refl m h w fun b mb hb => (hr.dom b mb hb).1, (fun b hb => by cases hb), ⟨List.nodup_nil, (fun r hr => by cases hr), (fun r hr => by cases hr), (fun r hr => by cases hr)⟩⟩
  split at he
  case h_2 => cases he
  rename_i st1 hcode1
  split at he
  case h_2 => cases he
  rename_i L1 hL1
  split at he
  case h_2 => cases he
  rename_i hL1s
  split at he
  case h_2 => cases he
  rename_i e st2 hcode2
  split at he
  case h_2 => cases he
  rename_i L2 hL2
  obtain ⟨rs1, m1, tm1, w1, q1, q2, q3⟩ := codeB_spec hE _ _ _ _ _ hcode1 m h w [] m tm w b hfr hr hs
  have := q2 (by simp); subst this
  have hm1 : m1 l = some mb := (q1.ext.old l hll).trans hml
  obtain ⟨ho1, cl1, d1, d2⟩ := q1.hr.blk l mb _ trivial hm1 hL1
  have hbr := run_beginRound (P := P) d1 (d2.state.trans hL1s)
  have hput1 := q1.hr.put (w' := w1.putObj mb.blk (.loop { cl1 with state := .busy })) (blk := .loop { L1 with state := .busy }) trivial hm1 hL1 rfl ho1 (by simp) (fun c hc => World.putObj_heap_other hc)
    ⟨ho1, _, World.putObj_heap_same (q1.hr.dom l mb hm1).2, ⟨rfl, d2.pending, d2.fn, d2.tmps, d2.size, d2.params, d2.assign, d2.body⟩⟩ ⟨rfl, rfl, rfl⟩
  have hs1 : SR L.size m h w [] m1 ⟨st1.σ, st1.h.set l (.loop { L1 with state := .busy }), ins st1.wr l⟩ tm1 (w1.putObj mb.blk (.loop { cl1 with state := .busy })) :=
    ⟨q1.tmr, q1.nd, q1.size, hput1.1, q1.ext.trans hput1.2 q1.ext.len (fun x hx => mem_ins.2 (.inl hx)) (fun x hx _ => mem_ins.2 (.inr (by simpa using hx))), (fun x hx => by
      rcases mem_ins.1 hx with h1 | rfl
      · exact q1.wr x h1
      · exact hll), q1.ds.ext hput1.2⟩
  obtain ⟨rs2, m2, tm2, w2, r1, r2, r3⟩ := codeB_spec hE _ _ _ _ _ hcode2 m h w [] m1 tm1 _ b hfr hr hs1
  have := r2 (by simp); subst this
  have hm2 : m2 l = some mb := (r1.ext.old l hll).trans hml
  obtain ⟨ho2, cl2, e1, e2⟩ := r1.hr.blk l mb _ trivial hm2 hL2
  have hfin : ∀ (s : LoopState) (j : Option Code) (v : Bool), finish h.length (.bool v) (st2.h.set l (.loop { L2 with state := s, pending := j })) (ins st2.wr l) = some rr →
      ∃ m', VR m' rr.v (.bool v) ∧ HR (fun _ => True) m' (rr.app h) (w2.putObj mb.blk (.loop { cl2 with state := s, pending := j })) ∧ Ext m h.length h w (rr.ws.map (·.1)) m' (rr.app h) (w2.putObj mb.blk (.loop { cl2 with state := s, pending := j })) ∧ WsOk h.length rr.ws := by
    intro s j v hf
    have hput2 := r1.hr.put (w' := w2.putObj mb.blk (.loop { cl2 with state := s, pending := j })) (blk := .loop { L2 with state := s, pending := j }) trivial hm2 hL2 rfl ho2 (by simp) (fun c hc => World.putObj_heap_other hc)
      ⟨ho2, _, World.putObj_heap_same (r1.hr.dom l mb hm2).2, ⟨rfl, rfl, e2.fn, e2.tmps, e2.size, e2.params, e2.assign, e2.body⟩⟩ ⟨rfl, rfl, rfl⟩
    have hext : Ext m h.length h w (ins st2.wr l) m2 (st2.h.set l (.loop { L2 with state := s, pending := j })) (w2.putObj mb.blk (.loop { cl2 with state := s, pending := j })) :=
      r1.ext.trans hput2.2 r1.ext.len (fun x hx => mem_ins.2 (.inl hx)) (fun x hx _ => mem_ins.2 (.inr (by simpa using hx)))
    exact finish_spec hr hput2.1 hext (fun x hx => by
      rcases mem_ins.1 hx with h1 | rfl
      · exact r1.wr x h1
      · exact hll) (.bool v) hf
  have hstart : ∀ (c : Frame) cs, Steps P (lone (Frame.round mb.blk L.fn tm L.assign L.body .normal) (c :: cs) w) (lone (b.atR ⟨tm1, dsOf []⟩ [.code L.body]) (c :: cs) (w1.putObj mb.blk (.loop { cl1 with state := .busy }))) := by
    intro c cs
    rw [hframe]
    have h3 := q3 (.code L.assign) [.beginRound, .code L.body] (c :: cs) (.code _)
    exact Steps.trans h3 (.one (stepR_beginRound (b := b) rfl hbr))
  cases e with
  | normal =>
    simp only at he
    obtain ⟨m', z1, z2, z3, z4⟩ := hfin .ready none true he
    refine ⟨.bool true, _, m', ⟨L.fn, tm, L.assign, L.body, hyield, fun c cs => ?_⟩, z1, z2, z3, z4⟩
    have h3 := r3 (.code L.body) [] (c :: cs) (.code _)
    exact ((hstart c cs).trans h3).trans (.one (stepR_round_end (b := b) rfl rfl (run_endRound none e1)))
  | ret =>
    simp only at he
    obtain ⟨m', z1, z2, z3, z4⟩ := hfin .done (some .ret) false he
    refine ⟨.bool false, _, m', ⟨L.fn, tm, L.assign, L.body, hyield, fun c cs => ?_⟩, z1, z2, z3, z4⟩
    obtain ⟨k', h3⟩ := r3 (.code L.body) [] (c :: cs) (.code _)
    exact ((hstart c cs).trans h3).trans (.one (stepR_round_ret (b := b) rfl rfl (run_endRound (some .ret) e1)))
  | exit id =>
    simp only at he
    obtain ⟨m', z1, z2, z3, z4⟩ := hfin .done (some (.exit id)) false he
    refine ⟨.bool false, _, m', ⟨L.fn, tm, L.assign, L.body, hyield, fun c cs => ?_⟩, z1, z2, z3, z4⟩
    obtain ⟨k', h2, h3⟩ := r3 (.code L.body) [] (c :: cs) (.code _)
    exact ((hstart c cs).trans h3).trans (.one (stepR_round_exit (b := b) rfl rfl (h2.trans rfl) (run_endRound (some (.exit id)) e1)))
  | goto t =>
    simp only at he
    obtain ⟨m', z1, z2, z3, z4⟩ := hfin .done (some (.goto t)) false he
    refine ⟨.bool false, _, m', ⟨L.fn, tm, L.assign, L.body, hyield, fun c cs => ?_⟩, z1, z2, z3, z4⟩
    obtain ⟨k', h2, h3⟩ := r3 (.code L.body) [] (c :: cs) (.code _)
    exact ((hstart c cs).trans h3).trans (.one (stepR_round_goto (b := b) rfl rfl (h2.trans rfl) (run_endRound (some (.goto t)) e1)))
theorem step_ok {E : Ev} (hE : EvOK P E) (hd : DrawOK P (Ev.step P E)) : EvOK P (Ev.step P E) :=
  ⟨fun cx c st e st' h => codeB_spec hE cx c st e st' h, fun cx bd c st e st' h => codeS_spec hE cx bd c st e st' h, run_ok hE, rnd_ok hE, hd⟩
end Go.GE
