/-
  GE, part 14: code. (Regions of a free order: part 15.)
-/
import Derived.Test.YtkmompbfcgjgmaaE13
import Derived.RangeFuncRecord
import Derived.RangeFuncNested
set_option autoImplicit false
set_option linter.unusedVariables false
set_option linter.unusedSimpArgs false
namespace Go.GE
variable {P : Program}

/-! ### where a code lands -/
def Lands (P : Program) (b : Frame) (todo k : List Item) (cs : List Frame) (a : Act) (w : World) (e : Ex) (a' : Act) (w' : World) : Prop :=
  match e with
  | .normal => Steps P (lone (b.atR a todo) cs w) (lone (b.atR a' k) cs w')
  | .exit id => ∃ k', exitTo id k' = exitTo id k ∧ Steps P (lone (b.atR a todo) cs w) (lone (b.atR a' (.code (.exit id) :: k')) cs w')
  | .goto l => ∃ k', gotoIn l k' = gotoIn l k ∧ Steps P (lone (b.atR a todo) cs w) (lone (b.atR a' (.code (.goto l) :: k')) cs w')
  | .ret => ∃ k', Steps P (lone (b.atR a todo) cs w) (lone (b.atR a' (.code .ret :: k')) cs w')
section
variable {b : Frame} {todo todo1 k k1 : List Item} {cs : List Frame} {a a1 a' : Act} {w w1 w' : World} {e : Ex}
theorem Lands.pre (h1 : Steps P (lone (b.atR a todo) cs w) (lone (b.atR a1 todo1) cs w1)) (h2 : Lands P b todo1 k cs a1 w1 e a' w') : Lands P b todo k cs a w e a' w' := by
  cases e with
  | normal => exact h1.trans h2
  | exit id => obtain ⟨k', q1, q2⟩ := h2; exact ⟨k', q1, h1.trans q2⟩
  | goto l => obtain ⟨k', q1, q2⟩ := h2; exact ⟨k', q1, h1.trans q2⟩
  | ret => obtain ⟨k', q2⟩ := h2; exact ⟨k', h1.trans q2⟩
theorem Lands.weak (h : Lands P b todo k1 cs a w e a' w') (he : e ≠ .normal) (h1 : ∀ id, e = .exit id → exitTo id k1 = exitTo id k) (h2 : ∀ l, e = .goto l → gotoIn l k1 = gotoIn l k) : Lands P b todo k cs a w e a' w' := by
  cases e with
  | normal => exact absurd rfl he
  | exit id => obtain ⟨k', q1, q2⟩ := h; exact ⟨k', q1.trans (h1 id rfl), q2⟩
  | goto l => obtain ⟨k', q1, q2⟩ := h; exact ⟨k', q1.trans (h2 l rfl), q2⟩
  | ret => exact h
theorem stepR_scope {c : Code} : step P (lone (b.atR a (.code (.scope c) :: k)) cs w) = .next (lone (b.atR a (.code c :: .inScope c :: k)) cs w) :=
  step_lone_go (by simp [stepG, stepG.exec, Frame.atR])
theorem stepR_inScope {c : Code} : step P (lone (b.atR a (.inScope c :: k)) cs w) = .next (lone (b.atR a k) cs w) :=
  step_lone_go (by simp [stepG, stepG.exec, Frame.atR])
end
inductive Head : Item → Code → Prop
  | code (c : Code) : Head (.code c) c
  | loop (b : Code) : Head (.inLoop b) (.loop b)
structure FrOK (cx : Cx) (m0 : Mp) (h0 : List Blk) (b : Frame) : Prop where
  fn : b.fn = cx.fn
  base : cx.base = h0.length
  ro0 : cx.ro = none → b.roundOf = none
  ro1 : ∀ l, cx.ro = some l → l < h0.length ∧ ∃ mb, m0 l = some mb ∧ b.roundOf = some mb.blk


/-! ### states -/
section
variable {nt : Nat} {m0 m : Mp} {h0 : List Blk} {w0 w : World} {rs : List Nat} {st st' : St} {tm : Array Value}
theorem SR.dropTo (hs : SR nt m0 h0 w0 rs m st tm w) (n : Nat) : SR nt m0 h0 w0 rs m { st with σ := dropTo n st.σ } tm w :=
  ⟨hs.tmr.drop hs.nd _, hs.nd.drop _, hs.size, hs.hr, hs.ext, hs.wr, hs.ds⟩
theorem SR.keep (hs : SR nt m0 h0 w0 rs m st tm w) (l : List Nat) : SR nt m0 h0 w0 rs m { st with σ := keepT l st.σ } tm w :=
  ⟨hs.tmr.keep _, hs.nd.keep _, hs.size, hs.hr, hs.ext, hs.wr, hs.ds⟩
theorem SR.keepO (hs : SR nt m0 h0 w0 rs m st tm w) (l : List Nat) : SR nt m0 h0 w0 rs m { st with σ := GE.keepO l st.σ } tm w :=
  ⟨hs.tmr.keepO _, ND.keepO _, hs.size, hs.hr, hs.ext, hs.wr, hs.ds⟩
theorem SR.fix1 (hs : SR nt m0 h0 w0 rs m st tm w) (x : NilH) : SR nt m0 h0 w0 rs m (GE.fix1 h0.length x st) tm w := by
  have hlen : h0.length ≤ st.h.length := hs.ext.len
  have hlive : ∀ (e : Blk) b, b < h0.length → LiveAt (st.h ++ [e]) b → LiveAt st.h b := by
    intro e b hb hl
    obtain ⟨y, hy, hl⟩ := hl
    rw [List.getElem?_append_left (by omega)] at hy
    exact ⟨y, hy, hl⟩
  unfold GE.fix1
  split
  · rename_i b o hx
    rcases Bool.eq_false_or_eq_true (Nat.blt b h0.length) with hb | hb
    · rw [hb]; exact hs
    · rw [hb, cond_false]
      have hb' : h0.length ≤ b := by have := GE.blt_false.1 hb; omega
      split
      · rename_i cs e own hblk
        split
        · rename_i hk
          have hlt : b < st.h.length := (List.getElem?_eq_some_iff.1 hblk).1
          refine ⟨hs.tmr, hs.nd, hs.size, ?_, ?_, hs.wr, hs.ds⟩
          · refine HR.more1 ?_ _
            refine ⟨fun c mb hc => by rw [List.length_set]; exact hs.hr.dom c mb hc, fun c mb blk hv hc hy => ?_, fun b1 b2 mb1 mb2 x1 x2 hne v1 v2 h1 h2 y1 y2 l1 l2 ho => ?_⟩
            · by_cases e1 : c = b
              · subst e1
                rw [List.getElem?_set_self hlt] at hy
                cases hy
                have := hs.hr.blk c mb _ hv hc hblk
                obtain ⟨cc, ct, fz, k1, k2, k3, k4, k5, k6⟩ := this
                refine ⟨cc, ct, fz, k1, k2, k3, by rw [List.length_set]; exact k4, fun i v hi => ?_, k6⟩
                by_cases e2 : o + x.k = i
                · subst e2
                  have hlt2 : o + x.k < cs.length := (List.getElem?_eq_some_iff.1 hk).1
                  rw [List.getElem?_set_self hlt2] at hi
                  cases hi
                  obtain ⟨⟨cv, g1, g2⟩, _⟩ := k5 _ _ hk
                  cases g2
                  exact ⟨⟨_, g1, .nil0⟩, fun h => by cases h⟩
                · rw [List.getElem?_set_ne e2] at hi; exact k5 i v hi
              · rw [List.getElem?_set_ne (Ne.symm e1)] at hy; exact hs.hr.blk c mb blk hv hc hy
            · have g : ∀ (c : Nat) (x1 : Blk), (st.h.set b (.cells (cs.set (o + x.k) (.slice (some ⟨st.h.length, 0, none⟩) 0 0)) e false own))[c]? = some x1 → x1.live = true → ∃ x0 : Blk, st.h[c]? = some x0 ∧ x0.live = true := by
                intro c x1 hy hl
                by_cases e1 : c = b
                · subst e1; exact ⟨_, hblk, rfl⟩
                · rw [List.getElem?_set_ne (Ne.symm e1)] at hy; exact ⟨x1, hy, hl⟩
              obtain ⟨z1, u1, t1⟩ := g _ _ y1 l1
              obtain ⟨z2, u2, t2⟩ := g _ _ y2 l2
              exact hs.hr.inj b1 b2 mb1 mb2 z1 z2 hne v1 v2 h1 h2 u1 u2 t1 t2 ho
          · refine ⟨hs.ext.old, hs.ext.size, hs.ext.same, hs.ext.fresh, by simp; omega, fun c hc hn => ?_, fun c hc hl => ?_, hs.ext.qt⟩
            · rw [List.getElem?_append_left (by simp; omega), List.getElem?_set_ne (by omega)]; exact hs.ext.keep c hc hn
            · obtain ⟨y, hy, hl⟩ := hl
              rw [List.getElem?_append_left (by simp; omega), List.getElem?_set_ne (by omega)] at hy
              exact hs.ext.live c hc ⟨y, hy, hl⟩
        · exact hs
      · exact hs
  · rename_i v _ hx
    split
    · rename_i v' hv'
      refine ⟨hs.tmr.rep hx fun cv h => fixV_spec hv' h, by unfold ND; rw [rep_keys]; exact hs.nd, hs.size, hs.hr.more1 _, ?_, hs.wr, hs.ds⟩
      exact ⟨hs.ext.old, hs.ext.size, hs.ext.same, hs.ext.fresh, by simp; omega, fun c hc hn => by rw [List.getElem?_append_left (by omega)]; exact hs.ext.keep c hc hn, fun c hc hl => hs.ext.live c hc (hlive _ c hc hl), hs.ext.qt⟩
    · exact hs
  · exact hs
theorem SR.fixS (hs : SR nt m0 h0 w0 rs m st tm w) (l : List NilH) : SR nt m0 h0 w0 rs m (GE.fixS h0.length l st) tm w := by
  induction l generalizing st with
  | nil => exact hs
  | cons x l ih => exact ih (hs.fix1 x)
theorem SR.sweep (hr0 : HR (fun _ => True) m0 h0 w0) (hs : SR nt m0 h0 w0 rs m st tm w) (he : GE.sweep h0.length st = some st') : ∃ m', SR nt m0 h0 w0 rs m' st' tm w := by
  obtain ⟨m', q1, q2, q3, q4, q5⟩ := sweep_spec hr0 hs.hr hs.ext hs.wr hs.tmr he
  refine ⟨m', q1, ?_, hs.size, q2, q3, by rw [q4]; exact hs.wr, hs.ds.sub q5⟩
  unfold ND; rw [sweep_keys he]; exact hs.nd
theorem SR.normK (hr0 : HR (fun _ => True) m0 h0 w0) (hs : SR nt m0 h0 w0 rs m st tm w) {K : Kp} (he : GE.normK h0.length K st = some st') : ∃ m', SR nt m0 h0 w0 rs m' st' tm w :=
  ((hs.keepO K.keep).fixS K.nils).sweep hr0 he
theorem SR.world (hs : SR nt m0 h0 w0 rs m st tm w) {w' : World} (hw : w'.heap = w.heap) (hq : Quiet w w') : SR nt m0 h0 w0 rs m st tm w' :=
  ⟨hs.tmr, hs.nd, hs.size, hs.hr.heap hw, hs.ext.heap hw hq, hs.wr, hs.ds.drawn hw⟩
theorem SR.eval (hs : SR nt m0 h0 w0 rs m st tm w) {x : Operand} {v : Value} (hx : opd st.σ x = some v) (ds : List Deferred) : VR m v ((⟨tm, ds⟩ : Act).eval x) := by
  cases x with
  | tmp t =>
    obtain ⟨cv, h1, h2⟩ := hs.tmr t v hx
    simp only [Act.eval]
    rw [Array.getD_eq_getD_getElem?, h1]; exact h2
  | const c =>
    obtain ⟨rfl, hc⟩ := opd_const hx
    exact .const hc
  | global g => cases hx
  | func f => cases hx; exact .func (.func f) .nil .nil
end

/-! ### what is claimed of a code -/
def CodeOK (P : Program) (cx : Cx) (c : Code) (st : St) (e : Ex) (st' : St) : Prop :=
  ∀ m0 h0 w0 rs m tm w b, FrOK cx m0 h0 b → HR (fun _ => True) m0 h0 w0 → SR cx.nt m0 h0 w0 rs m st tm w →
    ∃ rs' m' tm' w', SR cx.nt m0 h0 w0 rs' m' st' tm' w' ∧ (cx.ro ≠ none → rs' = rs) ∧
      ∀ it k cs, Head it c → Lands P b (it :: k) k cs ⟨tm, dsOf rs⟩ w e ⟨tm', dsOf rs'⟩ w'
def ScpOK (P : Program) (cx : Cx) (bd c : Code) (st : St) (e : Ex) (st' : St) : Prop :=
  ∀ m0 h0 w0 rs m tm w b, FrOK cx m0 h0 b → HR (fun _ => True) m0 h0 w0 → SR cx.nt m0 h0 w0 rs m st tm w →
    ∃ rs' m' tm' w', SR cx.nt m0 h0 w0 rs' m' st' tm' w' ∧ (cx.ro ≠ none → rs' = rs) ∧
      ∀ k cs, Lands P b (.code c :: .inScope bd :: k) k cs ⟨tm, dsOf rs⟩ w e ⟨tm', dsOf rs'⟩ w'
def DrawOK (P : Program) (E : Ev) : Prop :=
  ∀ (cx : Cx) ops st st' m0 h0 w0 rs m (a : Act) w (t : Nat), cx.base = h0.length → region P E cx ops true st = some st' → SR cx.nt m0 h0 w0 rs m st a.tmps w →
    ∃ a' w' m', SR cx.nt m0 h0 w0 rs m' st' a'.tmps w' ∧ a'.defers = a.defers ∧
      ∀ (b : Frame) (k : List Item) (cs : List Frame), Steps P (lone (b.atR a (.inRegion ops (Region.schedule (P.follows .mixedOrders) ops t) :: k)) cs w) (lone (b.atR a' k) cs w')
structure EvOK (P : Program) (E : Ev) : Prop where
  code : ∀ cx c st e st', E.code cx c st = some (e, st') → CodeOK P cx c st e st'
  scp : ∀ cx bd c st e st', E.scp cx bd c st = some (e, st') → ScpOK P cx bd c st e st'
  run : RunOK P E
  rnd : RndOK P E
  draw : DrawOK P E

theorem region_spec {E : Ev} (hE : EvOK P E) {cx : Cx} {id : Nat} {ops : Array Oper} {d : Bool} {st st' : St} (he : region P E cx ops d st = some st') : CodeOK P cx (.region id ops d) st .normal st' := by
  intro m0 h0 w0 rs m tm w b hb hr0 hs
  cases d with
  | false =>
    unfold region at he
    rcases cond_eq_some he with ⟨hd, he⟩ | ⟨_, he⟩
    · simp only [hb.base] at he
      obtain ⟨a', w', m', q1, q2, q3⟩ := runOps_spec hE.run hE.rnd hd ops.size 0 st st' ⟨tm, dsOf rs⟩ w m (by omega) hs he
      obtain ⟨tm', ds'⟩ := a'
      simp only at q2; subst q2
      refine ⟨rs, m', tm', w', q1, fun _ => rfl, fun it k cs hit => ?_⟩
      cases hit
      exact .head stepR_region (by rw [List.range_eq_range']; exact q3 b k cs)
    · cases he
  | true =>
    have hs1 : SR cx.nt m0 h0 w0 rs m st tm { w with drawn := w.drawn + 1 } := hs.world rfl ⟨rfl, rfl, rfl⟩
    obtain ⟨a', w', m', q1, q2, q3⟩ := hE.draw cx ops st st' m0 h0 w0 rs m ⟨tm, dsOf rs⟩ { w with drawn := w.drawn + 1 } (w.tape w.drawn (.order b.fn id)) hb.base he hs1
    obtain ⟨tm', ds'⟩ := a'
    simp only at q2; subst q2
    refine ⟨rs, m', tm', w', q1, fun _ => rfl, fun it k cs hit => ?_⟩
    cases hit
    exact .head stepR_region_draw (q3 b k cs)
theorem here {cx : Cx} {c : Code} {st : St} {e : Ex} (h : ∀ b it k cs a w, Head it c → Lands P b (it :: k) k cs a w e a w) : CodeOK P cx c st e st :=
  fun m0 h0 w0 rs m tm w b hb hr0 hs => ⟨rs, m, tm, w, hs, fun _ => rfl, fun it k cs hit => h b it k cs _ w hit⟩

/-! ### a range over a function -/
theorem HR.pushO {V : Nat → Prop} {m : Mp} {h : List Blk} {w : World} (hr : HR V m h w) (o : Obj) : HR V m h (w.alloc o) where
  dom b mb hm := ⟨(hr.dom b mb hm).1, by rw [World.size_alloc]; have := (hr.dom b mb hm).2; omega⟩
  blk b mb blk hv hm hb := (hr.blk b mb blk hv hm hb).world (by
    have := (hr.dom b mb hm).2
    show (w.heap.push o)[mb.blk]? = _
    rw [Array.getElem?_push_lt this, Array.getElem?_eq_getElem this])
  inj := hr.inj
theorem Ext.pushO {m m' : Mp} {n : Nat} {h h' : List Blk} {w w' : World} {wr : List Nat} (he : Ext m n h w wr m' h' w') (o : Obj) : Ext m n h w wr m' h' (w'.alloc o) :=
  ⟨he.old, by rw [World.size_alloc]; have := he.size; omega, fun cb hc ht => by
    rw [← he.same cb hc ht]
    have : cb < w'.heap.size := by have := he.size; omega
    show (w'.heap.push o)[cb]? = _
    rw [Array.getElem?_push_lt this, Array.getElem?_eq_getElem this], he.fresh, he.len, he.keep, he.live, he.qt.trans ⟨rfl, rfl, rfl⟩⟩
theorem SR.defer {nt : Nat} {m0 m : Mp} {h0 : List Blk} {w0 w : World} {rs : List Nat} {st : St} {tm : Array Value} (hs : SR nt m0 h0 w0 rs m st tm w) :
    SR nt m0 h0 w0 (w.heap.size :: rs) m st tm (w.alloc (.deferred (some []))) where
  tmr := hs.tmr
  nd := hs.nd
  size := hs.size
  hr := hs.hr.pushO _
  ext := hs.ext.pushO _
  wr := hs.wr
  ds := by
    have hlt : ∀ r, r ∈ rs → r < w.heap.size := fun r hr => (Array.getElem?_eq_some_iff.1 (hs.ds.at_ r hr)).1
    refine ⟨List.nodup_cons.2 ⟨fun h => by have := hlt _ h; omega, hs.ds.nodup⟩, fun r hr => ?_, fun r hr b mb hb => ?_, fun r hr => ?_⟩
    · rcases List.mem_cons.1 hr with rfl | hr
      · exact World.alloc_heap_new _ _
      · have := hlt r hr
        show (w.heap.push _)[r]? = _
        rw [Array.getElem?_push_lt this, ← Array.getElem?_eq_getElem this]; exact hs.ds.at_ r hr
    · rcases List.mem_cons.1 hr with rfl | hr
      · have := (hs.hr.dom b mb hb).2; omega
      · exact hs.ds.off r hr b mb hb
    · rcases List.mem_cons.1 hr with rfl | hr
      · exact hs.ext.size
      · exact hs.ds.new r hr
theorem hr_true {V : Nat → Prop} {m : Mp} {h : List Blk} {w : World} (hr : HR V m h w) (hv : ∀ b, V b) : HR (fun _ => True) m h w := hr.sub fun b _ => hv b
theorem rangeFunc_spec {E : Ev} (hE : EvOK P E) {cx : Cx} {f : Operand} {params : Array Tmp} {assign body : Code} {st : St} {e : Ex} {st' : St}
    (he : codeB P E cx (.rangeFunc f params assign body) st = some (e, st')) : CodeOK P cx (.rangeFunc f params assign body) st e st' := by
  intro m0 h0 w0 rs m tm w b hb hr0 hs
  simp only [codeB] at he
  split at he
  case h_2 => cases he
  rename_i g first captured hf hro
  split at he
  case h_2 => cases he
  rename_i r hcall
  -- the loop's record is laid
  have hent : ∃ (rs1 : List Nat) (wA : World) (mark : List Deferred) (df : Nat), SR cx.nt m0 h0 w0 rs1 m st tm wA ∧ (cx.ro ≠ none → rs1 = rs) ∧ mark ++ dsOf rs = dsOf rs1 ∧
      (Instr.enterLoop b.fn tm params assign body b.roundOf).run P w = .ok (wA.heap.size, mark) (wA.alloc (.loop { state := .ready, pending := none, fn := b.fn, tmps := tm, params, assign, body, defers := df })) := by
    cases hc : cx.ro with
    | none =>
      refine ⟨_, _, [{ target := .collected w.heap.size, args := #[] }], w.heap.size, hs.defer, fun h => absurd rfl h, rfl, ?_⟩
      rw [hb.ro0 hc, run_enterLoop_outer]
      simp [World.size_alloc]
    | some q =>
      obtain ⟨q1, mb, q2, q3⟩ := hb.ro1 q hc
      rw [hc] at hro
      simp only [isLoop] at hro
      split at hro
      · rename_i x hx
        have hm : m q = some mb := (hs.ext.old q q1).trans q2
        obtain ⟨_, cl, c1, c2⟩ := hs.hr.blk q mb _ trivial hm hx
        refine ⟨rs, w, [], cl.defers, hs, fun _ => rfl, rfl, ?_⟩
        rw [q3, run_enterLoop_inner c1]
      · cases hro
  obtain ⟨rs1, wA, mark, df, hsA, hrs, hmark, henter⟩ := hent
  generalize hrec : ({ state := .ready, pending := none, fn := b.fn, tmps := tm, params, assign, body, defers := df } : Loop) = rec at henter
  let lp : ALoop := { state := .ready, pending := none, fn := cx.fn, σ := keepT ((ue assign).1 ++ (ue body).1) st.σ, size := cx.nt, params, assign, body }
  let mbL : MB := { blk := wA.heap.size, sh := 0, ext := 0, esz := 0, own := true }
  have hal := hsA.hr.alloc (w' := wA.alloc (.loop rec)) (o := .loop rec) (blk := .loop lp) (mb := mbL) rfl rfl fun w'' hw => by
    refine ⟨rfl, rec, hw, ?_⟩
    subst hrec
    exact ⟨rfl, rfl, hb.fn, hsA.tmr.keep ((ue assign).1 ++ (ue body).1), hsA.size, rfl, rfl, rfl⟩
  obtain ⟨hal1, hal2⟩ := hal
  have hmL : ups m st.h.length mbL st.h.length = some mbL := by simp [ups]
  have hal1' := hr_true hal1 fun b => .inl trivial
  have hmono := ups_mono (m := m) (h := st.h) (fun b mb hm => (hsA.hr.dom b mb hm).1) mbL
  have hfv := (hs.eval hf (dsOf rs1)).mono hmono
  generalize hcf : (⟨tm, dsOf rs1⟩ : Act).eval f = cf at hfv
  cases hfv with
  | func hfn hx1 hx2 =>
    rename_i fn' first' cap'
    cases hfn
    have hl : VRL (ups m st.h.length mbL) (first.toList ++ [Value.func (.yield st.h.length) #[] #[]] ++ captured.toList) (first' ++ #[Value.func (.yield mbL.blk) #[] #[]] ++ cap').toList := by
      simpa using hx1.append (VRL.cons (VR.func (FnR.yield hmL) .nil .nil) hx2)
    obtain ⟨cv, w2, m2, q1, q2, q3, q4, q5⟩ := callH_spec hE.run hal1' hl hcall fun _ _ => trivial
    have q4' := hr_true q4 fun b => .inl trivial
    split at he
    case h_2 => cases he
    rename_i l' hl'
    have hm2 : m2 st.h.length = some mbL := (q5.old _ (by simp)).trans hmL
    obtain ⟨_, cl, c1, c2⟩ := q4'.blk _ mbL _ trivial hm2 hl'
    have hput := q4'.put (w' := w2.putObj mbL.blk (.loop { cl with state := .exhausted })) (blk := .dead) trivial hm2 hl' rfl rfl (by simp) (fun c hc => World.putObj_heap_other hc) trivial ⟨rfl, rfl, rfl⟩
    have hlen : h0.length ≤ st.h.length := hs.ext.len
    have hSR : SR cx.nt m0 h0 w0 rs1 m2 ⟨st.σ, r.h.set st.h.length .dead, addWr cx.base st.wr r.wr⟩ tm (w2.putObj mbL.blk (.loop { cl with state := .exhausted })) := by
      refine ⟨hsA.tmr.mono fun b mb hm => ?_, hs.nd, hs.size, hput.1, ?_, fun x hx => ?_, ?_⟩
      · have := (hsA.hr.dom b mb hm).1
        rw [q5.old b (by simp; omega)]; exact hmono b mb hm
      · refine ((hsA.ext.trans hal2 hlen (fun x hx => hx) (fun x hx => by cases hx)).trans q5 (by simp; omega) (fun x hx => (addWr_mem _ _ _).2 (.inl hx)) fun x hx hlt => (addWr_mem _ _ _).2 (.inr ⟨hx, by rw [hb.base]; exact hlt⟩)).trans hput.2 (by have := q5.len; simp at this; omega) (fun x hx => hx) fun x hx hlt => ?_
        have : x = st.h.length := by simpa using hx
        omega
      · rcases (addWr_mem _ _ _).1 hx with h | h
        · exact hs.wr x h
        · rw [← hb.base]; exact h.2
      · exact ((hsA.ds.ext hal2).ext q5).ext hput.2
    have hsteps : ∀ j : Option Code, cl.pending = j → cl.state ≠ .busy → ∀ (k : List Item) (cs : List Frame), Steps P (lone (b.atR ⟨tm, dsOf rs⟩ (.code (.rangeFunc f params assign body) :: k)) cs w)
        (lone (b.atR ⟨tm, dsOf rs1⟩ ((j.map Item.code).toList ++ k)) cs (w2.putObj mbL.blk (.loop { cl with state := .exhausted }))) := by
      intro j hj hnb k cs
      subst hj
      have hcf' : (⟨tm, dsOf rs⟩ : Act).eval f = .func (.func g) first' cap' := by rw [← hcf]; cases f <;> rfl
      have hst := stepR_rangeFunc (P := P) (b := b) (a := ⟨tm, dsOf rs⟩) (k := k) (cs := cs) (w := w) (g := f) (ps := params) (assign := assign) (body := body) (l := wA.heap.size) (mark := mark)
        (w₁ := wA.alloc (.loop rec)) (w₁' := wA.alloc (.loop rec)) (w₂ := wA.alloc (.loop rec)) (d := { target := .fn (.func g) cap', args := first' ++ #[.func (.yield wA.heap.size) #[] #[]] }) (f := g)
        (args := first' ++ #[.func (.yield wA.heap.size) #[] #[]] ++ cap') henter
        (by simp only [resolve, rangeCall, hcf', Deferred.ofValue, Sem.run_bind, Sem.run_pure, Result.andThen_ok, List.map_toArray, List.map_cons, List.map_nil]; rfl)
        (by show (callFunc g _).run P _ = _; exact q2 _ _)
      refine .head hst ?_
      have hret := q1.ret (b.atR ⟨tm, dsOf rs1⟩ (.inRangeFunc wA.heap.size :: k)) cs
      rw [finish_atR_inRangeFunc] at hret
      simp only [hmark]
      exact hret.trans (.one (stepR_endRangeFunc (run_endLoop c1 hnb)))
    refine ⟨rs1, m2, tm, w2.putObj mbL.blk (.loop { cl with state := .exhausted }), ?_, hrs, ?_⟩
    · split at he
      · rename_i hst hpd
        cases he
        exact hSR
      · rename_i c hst hpd
        simp only [Option.map_eq_some_iff] at he
        obtain ⟨e', _, he⟩ := he
        cases he
        exact hSR
      · cases he
    · intro it k cs hit
      cases hit
      split at he
      · rename_i hst hpd
        cases he
        exact hsteps none (c2.pending.trans hpd) (by rw [c2.state, hst]; decide) k cs
      · rename_i c hst hpd
        simp only [Option.map_eq_some_iff] at he
        obtain ⟨e', he1, he⟩ := he
        cases he
        have := hsteps (some c) (c2.pending.trans hpd) (by rw [c2.state, hst]; decide) k cs
        cases c <;> simp only [codeEx] at he1 <;> cases he1
        · exact ⟨k, rfl, this⟩
        · exact ⟨k, rfl, this⟩
        · exact ⟨k, this⟩
      · cases he

/-! ### the codes, one by one -/
section
variable {cx : Cx} {x y c : Code} {st st1 st2 st3 : St} {e : Ex}
theorem CodeOK.to (h : CodeOK P cx c st e st1) (hw : ∀ nt m0 h0 w0 rs m tm w, cx.base = h0.length → HR (fun _ => True) m0 h0 w0 → SR nt m0 h0 w0 rs m st1 tm w → ∃ m', SR nt m0 h0 w0 rs m' st2 tm w) : CodeOK P cx c st e st2 := by
  intro m0 h0 w0 rs m tm w b hb hr0 hs
  obtain ⟨rs', m', tm', w', q1, q2, q3⟩ := h m0 h0 w0 rs m tm w b hb hr0 hs
  obtain ⟨m2, q4⟩ := hw _ _ _ _ _ _ _ _ hb.base hr0 q1
  exact ⟨rs', m2, tm', w', q4, q2, q3⟩
theorem CodeOK.drop (h : CodeOK P cx c st e st1) (n : Nat) : CodeOK P cx c st e { st1 with σ := dropTo n st1.σ } :=
  h.to fun _ _ _ _ _ m _ _ _ _ hs => ⟨m, hs.dropTo n⟩
theorem CodeOK.seq (h1 : CodeOK P cx x st .normal st1) (h2 : CodeOK P cx y st1 e st2) : CodeOK P cx (.seq x y) st e st2 := by
  intro m0 h0 w0 rs m tm w b hb hr0 hs
  obtain ⟨rs1, m1, tm1, w1, q1, q2, q3⟩ := h1 m0 h0 w0 rs m tm w b hb hr0 hs
  obtain ⟨rs2, m2, tm2, w2, r1, r2, r3⟩ := h2 m0 h0 w0 rs1 m1 tm1 w1 b hb hr0 q1
  refine ⟨rs2, m2, tm2, w2, r1, fun h => (r2 h).trans (q2 h), fun it k cs hit => ?_⟩
  cases hit
  exact Lands.pre (.one stepR_seq) (Lands.pre (q3 (.code x) (.code y :: k) cs (.code x)) (r3 (.code y) k cs (.code y)))
/-- a jump passes through -/
theorem CodeOK.out {c' : Code} (h : CodeOK P cx x st e st1) (he : e ≠ .normal) (it' : Item) (hit : ∀ it, Head it c' → ∀ (b : Frame) a k cs w, step P (lone (b.atR a (it :: k)) cs w) = .next (lone (b.atR a (.code x :: it' :: k)) cs w))
    (h1 : ∀ id k, e = .exit id → exitTo id (it' :: k) = exitTo id k) (h2 : ∀ l k, e = .goto l → gotoIn l (it' :: k) = gotoIn l k) : CodeOK P cx c' st e st1 := by
  intro m0 h0 w0 rs m tm w b hb hr0 hs
  obtain ⟨rs1, m1, tm1, w1, q1, q2, q3⟩ := h m0 h0 w0 rs m tm w b hb hr0 hs
  refine ⟨rs1, m1, tm1, w1, q1, q2, fun it k cs hh => ?_⟩
  exact Lands.pre (.one (hit it hh b _ k cs w)) ((q3 (.code x) (it' :: k) cs (.code x)).weak he (fun id h => h1 id k h) fun l h => h2 l k h)
/-- off the end, and a step on -/
theorem CodeOK.off {c' : Code} (h : CodeOK P cx x st .normal st1) (it' : Item) (hit : ∀ it, Head it c' → ∀ (b : Frame) a k cs w, step P (lone (b.atR a (it :: k)) cs w) = .next (lone (b.atR a (.code x :: it' :: k)) cs w))
    (h1 : ∀ (b : Frame) a k cs w, step P (lone (b.atR a (it' :: k)) cs w) = .next (lone (b.atR a k) cs w)) : CodeOK P cx c' st .normal st1 := by
  intro m0 h0 w0 rs m tm w b hb hr0 hs
  obtain ⟨rs1, m1, tm1, w1, q1, q2, q3⟩ := h m0 h0 w0 rs m tm w b hb hr0 hs
  refine ⟨rs1, m1, tm1, w1, q1, q2, fun it k cs hh => ?_⟩
  exact Lands.pre (.one (hit it hh b _ k cs w)) (Lands.pre (q3 (.code x) (it' :: k) cs (.code x)) (.one (h1 b _ k cs w1)))
theorem head_seq {it : Item} (h : Head it (.seq x y)) (b : Frame) (a : Act) (k : List Item) (cs : List Frame) (w : World) : step P (lone (b.atR a (it :: k)) cs w) = .next (lone (b.atR a (.code x :: .code y :: k)) cs w) := by
  cases h; exact stepR_seq
theorem head_block {id : Nat} {it : Item} (h : Head it (.block id x)) (b : Frame) (a : Act) (k : List Item) (cs : List Frame) (w : World) : step P (lone (b.atR a (it :: k)) cs w) = .next (lone (b.atR a (.code x :: .inBlock id :: k)) cs w) := by
  cases h; exact stepR_block
theorem head_loop {it : Item} (h : Head it (.loop x)) (b : Frame) (a : Act) (k : List Item) (cs : List Frame) (w : World) : step P (lone (b.atR a (it :: k)) cs w) = .next (lone (b.atR a (.code x :: .inLoop x :: k)) cs w) := by
  cases h
  · exact stepR_loop
  · exact stepR_inLoop
theorem head_scope {it : Item} (h : Head it (.scope x)) (b : Frame) (a : Act) (k : List Item) (cs : List Frame) (w : World) : step P (lone (b.atR a (it :: k)) cs w) = .next (lone (b.atR a (.code x :: .inScope x :: k)) cs w) := by
  cases h; exact stepR_scope
theorem CodeOK.cond {o : Operand} {t : Bool} (ho : opd st.σ o = some (.bool t)) (h : CodeOK P cx (if t then x else y) st e st1) : CodeOK P cx (.cond o x y) st e st1 := by
  intro m0 h0 w0 rs m tm w b hb hr0 hs
  obtain ⟨rs1, m1, tm1, w1, q1, q2, q3⟩ := h m0 h0 w0 rs m tm w b hb hr0 hs
  refine ⟨rs1, m1, tm1, w1, q1, q2, fun it k cs hit => ?_⟩
  cases hit
  have hv := hs.eval ho (dsOf rs)
  generalize hg : (⟨tm, dsOf rs⟩ : Act).eval o = g at hv
  cases hv
  exact Lands.pre (.one (stepR_cond hg)) (q3 _ k cs (.code _))
theorem CodeOK.blockExit {id : Nat} (h : CodeOK P cx x st (.exit id) st1) : CodeOK P cx (.block id x) st .normal st1 := by
  intro m0 h0 w0 rs m tm w b hb hr0 hs
  obtain ⟨rs1, m1, tm1, w1, q1, q2, q3⟩ := h m0 h0 w0 rs m tm w b hb hr0 hs
  refine ⟨rs1, m1, tm1, w1, q1, q2, fun it k cs hit => ?_⟩
  obtain ⟨k', r1, r2⟩ := q3 (.code x) (.inBlock id :: k) cs (.code x)
  have : exitTo id k' = some k := by rw [r1]; simp [exitTo]
  exact (Steps.head (head_block hit b _ k cs w) r2).trans (.one (stepR_exit this))
theorem CodeOK.loop (h1 : CodeOK P cx x st .normal st1) (h2 : CodeOK P cx (.loop x) st1 e st2) : CodeOK P cx (.loop x) st e st2 := by
  intro m0 h0 w0 rs m tm w b hb hr0 hs
  obtain ⟨rs1, m1, tm1, w1, q1, q2, q3⟩ := h1 m0 h0 w0 rs m tm w b hb hr0 hs
  obtain ⟨rs2, m2, tm2, w2, r1, r2, r3⟩ := h2 m0 h0 w0 rs1 m1 tm1 w1 b hb hr0 q1
  refine ⟨rs2, m2, tm2, w2, r1, fun h => (r2 h).trans (q2 h), fun it k cs hit => ?_⟩
  exact Lands.pre (.one (head_loop hit b _ k cs w)) (Lands.pre (q3 (.code x) (.inLoop x :: k) cs (.code x)) (r3 (.inLoop x) k cs (.loop x)))
theorem sweep_keep {l : List Nat} {st1 st2 : St} {nt : Nat} {m0 : Mp} {h0 : List Blk} {w0 : World} {rs : List Nat} {m : Mp} {tm : Array Value} {w : World} (hr0 : HR (fun _ => True) m0 h0 w0) (hs : SR nt m0 h0 w0 rs m st1 tm w)
    (he : GE.sweep h0.length { st1 with σ := keepT l st1.σ } = some st2) : ∃ m', SR nt m0 h0 w0 rs m' st2 tm w := (hs.keep l).sweep hr0 he
theorem jumpN_keep {E : Ev} {cx : Cx} {rest : Code} {l : Nat} {st1 st2 : St} {nt : Nat} {m0 : Mp} {h0 : List Blk} {w0 : World} {rs : List Nat} {m : Mp} {tm : Array Value} {w : World} (hb : cx.base = h0.length) (hr0 : HR (fun _ => True) m0 h0 w0) (hs : SR nt m0 h0 w0 rs m st1 tm w)
    (he : GE.jumpN P E cx rest l st1 = some st2) : ∃ m', SR nt m0 h0 w0 rs m' st2 tm w := by
  unfold GE.jumpN at he
  split at he
  · rw [hb] at he; exact sweep_keep hr0 hs he
  · rw [hb] at he; exact hs.normK hr0 he
theorem CodeOK.norm {st0 : St} (h : CodeOK P cx c st0 e st2) (hw : ∀ nt m0 h0 w0 rs m tm w, cx.base = h0.length → HR (fun _ => True) m0 h0 w0 → SR nt m0 h0 w0 rs m st tm w → ∃ m', SR nt m0 h0 w0 rs m' st0 tm w) :
    CodeOK P cx c st e st2 := by
  intro m0 h0 w0 rs m tm w b hb hr0 hs
  obtain ⟨m', hs'⟩ := hw _ _ _ _ _ _ _ _ hb.base hr0 hs
  exact h m0 h0 w0 rs m' tm w b hb hr0 hs'
theorem CodeOK.scp {l : Nat} (h1 : CodeOK P cx x st (.goto l) st1) {rest : Code} (hl : findLabel x l = some rest) (h2 : ScpOK P cx x rest st1 e st2) (bd : Code) (hbd : bd = .scope x) : CodeOK P cx bd st e st2 := by
  subst hbd
  intro m0 h0 w0 rs m tm w b hb hr0 hs
  obtain ⟨rs1, m1, tm1, w1, q1, q2, q3⟩ := h1 m0 h0 w0 rs m tm w b hb hr0 hs
  obtain ⟨rs2, m2, tm2, w2, r1, r2, r3⟩ := h2 m0 h0 w0 rs1 m1 tm1 w1 b hb hr0 q1
  refine ⟨rs2, m2, tm2, w2, r1, fun h => (r2 h).trans (q2 h), fun it k cs hit => ?_⟩
  obtain ⟨k', s1, s2⟩ := q3 (.code x) (.inScope x :: k) cs (.code x)
  have : gotoIn l k' = some (.code rest :: .inScope x :: k) := by rw [s1]; simp [gotoIn, hl]
  exact Lands.pre (.one (head_scope hit b _ k cs w)) (Lands.pre s2 (Lands.pre (.one (stepR_goto this)) (r3 k cs)))
theorem norm_spec {E : Ev} {k : Nat} {e2 : Ex} (he : normX E cx k e st = some (e2, st2)) (h : CodeOK P cx c st e st) : CodeOK P cx c st e2 st2 := by
  unfold normX at he
  split at he
  · cases he; exact h
  · rename_i l hl
    rw [Option.map_eq_some_iff] at he
    obtain ⟨st0, h1, h2⟩ := he
    cases h2
    refine h.to fun nt m0 h0 w0 rs m tm w hbase hr0 hs => ?_
    rw [hbase] at h1
    exact hs.normK hr0 h1
theorem codeB_spec {E : Ev} (hE : EvOK P E) (cx : Cx) : ∀ (c : Code) (st : St) (e : Ex) (st' : St), codeB P E cx c st = some (e, st') → CodeOK P cx c st e st' := by
  intro c
  induction c with
  | skip => intro st e st' he; simp only [codeB] at he; cases he; exact here fun b it k cs a w hit => by cases hit; exact .one stepR_skip
  | label l => intro st e st' he; simp only [codeB] at he; exact norm_spec he (here fun b it k cs a w hit => by cases hit; exact .one stepR_label)
  | exit id => intro st e st' he; simp only [codeB] at he; exact norm_spec he (here fun b it k cs a w hit => by cases hit; exact ⟨k, rfl, .refl _ _⟩)
  | goto l => intro st e st' he; simp only [codeB] at he; cases he; exact here fun b it k cs a w hit => by cases hit; exact ⟨k, rfl, .refl _ _⟩
  | ret => intro st e st' he; simp only [codeB] at he; exact norm_spec he (here fun b it k cs a w hit => by cases hit; exact ⟨k, .refl _ _⟩)
  | refuse s => intro st e st' he; simp only [codeB] at he; cases he
  | region id ops d =>
    intro st e st' he
    simp only [codeB, Option.map_eq_some_iff] at he
    obtain ⟨st1, h1, h2⟩ := he
    cases h2
    exact region_spec hE h1
  | rangeFunc f ps a b _ _ => intro st e st' he; exact rangeFunc_spec hE he
  | seq a b iha ihb =>
    intro st e st' he
    simp only [codeB] at he
    split at he
    · rename_i st1 h1
      exact (iha _ _ _ h1).seq (ihb _ _ _ he)
    · rename_i hn
      exact (iha _ _ _ he).out (fun hh => by subst hh; exact hn _ he) (.code b) (fun it h => head_seq h) (fun _ _ _ => rfl) (fun _ _ _ => rfl)
  | cond o a b iha ihb =>
    intro st e st' he
    simp only [codeB] at he
    split at he
    · rename_i ho
      refine CodeOK.cond (t := true) ho ?_
      split at he
      · rename_i st1 h1; cases he; exact (iha _ _ _ h1).drop _
      · exact iha _ _ _ he
    · rename_i ho
      refine CodeOK.cond (t := false) ho ?_
      split at he
      · rename_i st1 h1; cases he; exact (ihb _ _ _ h1).drop _
      · exact ihb _ _ _ he
    · cases he
  | block id b ih =>
    intro st e st' he
    simp only [codeB] at he
    split at he
    · rename_i st1 h1; cases he
      exact ((ih _ _ _ h1).off (.inBlock id) (fun it h => head_block h) fun _ _ _ _ _ => stepR_inBlock).drop _
    · rename_i id' st1 h1
      split at he
      · rename_i hid; subst hid; cases he
        exact (ih _ _ _ h1).blockExit.drop _
      · rename_i hid; cases he
        refine (ih _ _ _ h1).out (by simp) (.inBlock id) (fun it h => head_block h) (fun id2 k h => ?_) (fun _ _ h => by cases h)
        cases h
        simp [exitTo, Ne.symm hid]
    · rename_i hn1 hn2
      refine (ih _ _ _ he).out (fun hh => by subst hh; exact hn1 _ he) (.inBlock id) (fun it h => head_block h) (fun id2 k h => ?_) (fun _ _ _ => rfl)
      subst h; exact absurd he (hn2 _ _)
  | loop b ih =>
    intro st e st' he
    simp only [codeB] at he
    split at he
    · split at he
      · rename_i st1 h1
        split at he
        · rename_i st2 h2
          refine (((ih _ _ _ h1).drop st.σ.length).to ?_).loop (hE.code _ _ _ _ _ he)
          intro nt m0 h0 w0 rs m tm w hbase hr0 hs
          split at h2
          · cases h2; exact ⟨m, hs⟩
          · rw [hbase] at h2; exact hs.sweep hr0 h2
        · cases he
      · rename_i hn
        exact (ih _ _ _ he).out (fun hh => by subst hh; exact hn _ he) (.inLoop b) (fun it h => head_loop h) (fun _ _ _ => rfl) (fun _ _ _ => rfl)
    · rename_i l hl
      split at he
      · rename_i st0 h0e
        have hnorm : ∀ nt m0 h0 w0 rs m tm w, cx.base = h0.length → HR (fun _ => True) m0 h0 w0 → SR nt m0 h0 w0 rs m st tm w → ∃ m', SR nt m0 h0 w0 rs m' st0 tm w := by
          intro nt m0 h0 w0 rs m tm w hbase hr0 hs
          rw [hbase] at h0e
          exact hs.normK hr0 h0e
        split at he
        · rename_i st1 h1
          exact ((ih _ _ _ h1).loop (hE.code _ _ _ _ _ he)).norm hnorm
        · rename_i hn
          exact ((ih _ _ _ he).out (fun hh => by subst hh; exact hn _ he) (.inLoop b) (fun it h => head_loop h) (fun _ _ _ => rfl) (fun _ _ _ => rfl)).norm hnorm
      · cases he
  | scope b ih =>
    intro st e st' he
    simp only [codeB] at he
    split at he
    · rename_i l st1 h1
      split at he
      · rename_i rest hl
        split at he
        · rename_i st2 h2
          refine ((ih _ _ _ h1).to ?_).scp hl (hE.scp _ _ _ _ _ _ he) _ rfl
          intro nt m0 h0 w0 rs m tm w hbase hr0 hs
          exact jumpN_keep hbase hr0 hs h2
        · cases he
      · rename_i hl
        cases he
        refine (ih _ _ _ h1).out (by simp) (.inScope b) (fun it h => head_scope h) (fun _ _ h => by cases h) (fun l2 k h => ?_)
        cases h
        simp [gotoIn, hl]
    · rename_i hn
      cases e with
      | normal => exact (ih _ _ _ he).off (.inScope b) (fun it h => head_scope h) fun _ _ _ _ _ => stepR_inScope
      | goto l => exact absurd he (hn _ _)
      | exit id => exact (ih _ _ _ he).out (by simp) (.inScope b) (fun it h => head_scope h) (fun _ _ _ => rfl) (fun _ _ h => by cases h)
      | ret => exact (ih _ _ _ he).out (by simp) (.inScope b) (fun it h => head_scope h) (fun _ _ h => by cases h) (fun _ _ h => by cases h)
theorem codeS_spec {E : Ev} (hE : EvOK P E) (cx : Cx) (bd c : Code) (st : St) (e : Ex) (st' : St) (he : codeS P E cx bd c st = some (e, st')) : ScpOK P cx bd c st e st' := by
  have plain : ∀ (e : Ex) st1, CodeOK P cx c st e st1 → (∀ l, e = .goto l → findLabel bd l = none) → ScpOK P cx bd c st e st1 := by
    intro e st1 h hg m0 h0 w0 rs m tm w b hb hr0 hs
    obtain ⟨rs1, m1, tm1, w1, q1, q2, q3⟩ := h m0 h0 w0 rs m tm w b hb hr0 hs
    refine ⟨rs1, m1, tm1, w1, q1, q2, fun k cs => ?_⟩
    have h3 := q3 (.code c) (.inScope bd :: k) cs (.code c)
    cases e with
    | normal => exact Lands.pre h3 (.one stepR_inScope)
    | exit id => exact h3.weak (by simp) (fun _ _ => rfl) (fun _ h => by cases h)
    | goto l => exact h3.weak (by simp) (fun _ h => by cases h) (fun l2 h => by cases h; simp [gotoIn, hg l rfl])
    | ret => exact h3.weak (by simp) (fun _ h => by cases h) (fun _ h => by cases h)
  unfold codeS at he
  split at he
  · rename_i l st1 h1
    split at he
    · rename_i rest hl
      split at he
      · rename_i st2 h2
        have hc := codeB_spec hE cx c st (.goto l) st1 h1
        have hsc := hE.scp _ _ _ _ _ _ he
        intro m0 h0 w0 rs m tm w b hb hr0 hs
        obtain ⟨rs1, m1, tm1, w1, q1, q2, q3⟩ := hc m0 h0 w0 rs m tm w b hb hr0 hs
        obtain ⟨m1', q1'⟩ := jumpN_keep hb.base hr0 q1 h2
        obtain ⟨rs2, m2, tm2, w2, r1, r2, r3⟩ := hsc m0 h0 w0 rs1 m1' tm1 w1 b hb hr0 q1'
        refine ⟨rs2, m2, tm2, w2, r1, fun h => (r2 h).trans (q2 h), fun k cs => ?_⟩
        obtain ⟨k', s1, s2⟩ := q3 (.code c) (.inScope bd :: k) cs (.code c)
        have : gotoIn l k' = some (.code rest :: .inScope bd :: k) := by rw [s1]; simp [gotoIn, hl]
        exact Lands.pre s2 (Lands.pre (.one (stepR_goto this)) (r3 k cs))
      · cases he
    · rename_i hl
      cases he
      exact plain _ _ (codeB_spec hE cx c st _ _ h1) fun l2 h => by cases h; exact hl
  · rename_i hn
    exact plain _ _ (codeB_spec hE cx c st _ _ he) fun l2 h => by subst h; exact absurd he (hn _ _)
end
end Go.GE
