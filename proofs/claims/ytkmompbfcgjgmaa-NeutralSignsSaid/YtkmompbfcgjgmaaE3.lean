/-
  GE, part 3: operations that call nothing.
-/
import Derived.Test.YtkmompbfcgjgmaaE2
import Derived.Laws.StructEq
set_option autoImplicit false
set_option linter.unusedVariables false
namespace Go.GE
variable {P : Program}

def OpdR (m : Mp) (σ : Tm) (a : Act) (o : Oper) : Prop := ∀ x, x ∈ o.op.operands.toList → ∀ v, opd σ x = some v → VR m v (a.eval x)
/-- one operation goes through, with what it calls -/
def OpRuns (P : Program) (a : Act) (o : Oper) (w : World) (cv : Value) (w' : World) : Prop :=
  (execOp a.eval o).run P w = .ok (.value cv) w' ∨ ((execOp a.eval o).run P w = .ok .skip w' ∧ cv = undef) ∨
  (∃ f cargs w1, (execOp a.eval o).run P w = .ok (.enter f cargs) w1 ∧ ∀ c cs, Steps P (lone (Frame.enter P f cargs .normal) (c :: cs) w1) (lone (c.finish cv) cs w')) ∨
  (∃ l f tm as bd w1, (execOp a.eval o).run P w = .ok (.round l f tm as bd) w1 ∧ ∀ c cs, Steps P (lone (Frame.round l f tm as bd .normal) (c :: cs) w1) (lone (c.finish cv) cs w'))
def OpRes (P : Program) (a : Act) (o : Oper) (V : Nat → Prop) (m : Mp) (h : List Blk) (w : World) (r : OR) : Prop :=
  ∃ cv w' m', OpRuns P a o w cv w' ∧ VR m' r.v cv ∧ HR (fun b => V b ∨ h.length ≤ b) m' r.h w' ∧ Ext m h.length h w r.wr m' r.h w'
section
variable {a : Act} {o : Oper} {V : Nat → Prop} {m : Mp} {σ : Tm} {h : List Blk} {w : World} {r : OR}

theorem OpRes.pure' (hr : HR V m h w) {v cv : Value} {rd : List Nat} (hrun : (execOp a.eval o).run P w = .ok (.value cv) w) (hv : VR m v cv) : OpRes P a o V m h w ⟨v, h, rd, []⟩ :=
  ⟨cv, w, m, .inl hrun, hv, hr.more, .refl m h w fun b mb hm => (hr.dom b mb hm).1⟩
theorem OpRes.drawn (hr : HR V m h w) {v cv : Value} {rd : List Nat} {w' : World} (hw : w'.heap = w.heap) (hq : Quiet w w') (hrun : (execOp a.eval o).run P w = .ok (.value cv) w') (hv : VR m v cv) : OpRes P a o V m h w ⟨v, h, rd, []⟩ :=
  ⟨cv, w', m, .inl hrun, hv, hr.more.heap hw, (Ext.refl m h w fun b mb hm => (hr.dom b mb hm).1).heap hw hq⟩
theorem bind_pureR {x : Option Value} (hx : x.bind (pureR h) = some r) : ∃ v, x = some v ∧ r = ⟨v, h, [], []⟩ := by
  cases x with
  | none => cases hx
  | some v => exact ⟨v, rfl, by simpa [pureR] using hx.symm⟩
/-- a new row of cells; it may be longer than what is told of it -/
theorem OpRes.rowX (hr : HR V m h w) {vs : List Value} {cc : Array Value} {ct : TypeId} {e : Nat} {flat : Bool} {w' : World} {fz : Nat × Nat} {mk : Nat → Value} {cmk : Nat → Value} {rd : List Nat}
    (hlen : vs.length ≤ cc.size) (hvs : ∀ (i : Nat) (v : Value), vs[i]? = some v → ∃ cv, cc[i]? = some cv ∧ VR m v cv) (hflat : flat = true → vs.all scal = true) (hw : w'.heap = w.heap.push (.cells cc ct fz)) (hz : ∀ o, o < cc.size → ¬ (fz.1 ≤ o ∧ o < fz.2))
    (hmk : ∀ m' : Mp, m' h.length = some ⟨w.heap.size, 0, cc.size, e, true⟩ → VR m' (mk h.length) (cmk w.heap.size))
    (hrun : (execOp a.eval o).run P w = .ok (.value (cmk w.heap.size)) w') (hq : Quiet w w' := by exact ⟨rfl, rfl, rfl⟩) : OpRes P a o V m h w ⟨mk h.length, h ++ [.cells vs e flat true], rd, []⟩ := by
  obtain ⟨h1, h2⟩ := hr.alloc (mb := ⟨w.heap.size, 0, cc.size, e, true⟩) (blk := .cells vs e flat true) hw rfl (hq := hq) fun w'' hn => by
    refine ⟨cc, ct, fz, hn, rfl, rfl, by simpa using hlen, fun i v hi => ?_, fun _ => ⟨rfl, hz⟩⟩
    obtain ⟨cv, e1, e2⟩ := hvs i v hi
    exact ⟨⟨cv, by simpa using e1, e2⟩, fun hf => List.all_eq_true.1 (hflat hf) v (List.mem_of_getElem? hi)⟩
  exact ⟨_, w', _, .inl hrun, hmk _ (by simp [ups]), h1, h2⟩
theorem OpRes.row (hr : HR V m h w) {vs : List Value} {cc : Array Value} {ct : TypeId} {e : Nat} {flat : Bool} {w' : World} {fz : Nat × Nat} {mk : Nat → Value} {cmk : Nat → Value} {rd : List Nat}
    (hvs : VRL m vs cc.toList) (hflat : flat = true → vs.all scal = true) (hw : w'.heap = w.heap.push (.cells cc ct fz)) (hz : ∀ o, o < cc.size → ¬ (fz.1 ≤ o ∧ o < fz.2))
    (hmk : ∀ m' : Mp, m' h.length = some ⟨w.heap.size, 0, cc.size, e, true⟩ → VR m' (mk h.length) (cmk w.heap.size))
    (hrun : (execOp a.eval o).run P w = .ok (.value (cmk w.heap.size)) w') (hq : Quiet w w' := by exact ⟨rfl, rfl, rfl⟩) : OpRes P a o V m h w ⟨mk h.length, h ++ [.cells vs e flat true], rd, []⟩ := by
  have hl := hvs.length
  simp only [Array.length_toList] at hl
  exact .rowX hr (by omega) (fun i v hi => by simpa using hvs.get i v hi) hflat hw hz hmk hrun hq

theorem opd_const {x : Value} {v : Value} (hx : opd σ (.const x) = some v) : v = x ∧ constOk x = true := by
  simp only [opd] at hx
  rcases cond_eq_some hx with ⟨h1, h2⟩ | ⟨_, h2⟩
  · cases h2; exact ⟨rfl, h1⟩
  · cases h2

theorem aop_move {x : Operand} (hop : o.op = .move x ∨ o.op = .assign x) (hr : HR V m h w) (ho : OpdR m σ a o) (he : (opd σ x).bind (pureR h) = some r) : OpRes P a o V m h w r := by
  obtain ⟨v, hv, rfl⟩ := bind_pureR he
  refine .pure' hr (cv := a.eval x) ?_ (ho x ?_ v hv)
  · rcases hop with hop | hop <;> simp [execOp, hop]
  · rcases hop with hop | hop <;> simp [Op.operands, hop]

theorem aop_pick {c x y : Operand} (hop : o.op = .pick c x y) (hr : HR V m h w) (ho : OpdR m σ a o)
    (he : (match opd σ c with | some (.bool true) => (opd σ x).bind (pureR h) | some (.bool false) => (opd σ y).bind (pureR h) | _ => none) = some r) : OpRes P a o V m h w r := by
  split at he
  · rename_i hc
    obtain ⟨v, hv, rfl⟩ := bind_pureR he
    have h1 := ho c (by simp [Op.operands, hop]) _ hc
    refine .pure' hr (cv := a.eval x) ?_ (ho x (by simp [Op.operands, hop]) v hv)
    have := h1.scal_eq rfl
    simp [execOp, hop, this, asBool]
  · rename_i hc
    obtain ⟨v, hv, rfl⟩ := bind_pureR he
    have h1 := ho c (by simp [Op.operands, hop]) _ hc
    refine .pure' hr (cv := a.eval y) ?_ (ho y (by simp [Op.operands, hop]) v hv)
    have := h1.scal_eq rfl
    simp [execOp, hop, this, asBool]
  · cases he

theorem zeroA_spec {t : TypeId} {z : Value} (hz : zeroA P t = some z) : (∃ i, P.info? t = some i ∧ i.zero = some z) ∧ constOk z = true := by
  unfold zeroA at hz
  split at hz
  · rename_i v hv
    rcases cond_eq_some hz with ⟨h1, h2⟩ | ⟨_, h2⟩
    · cases h2
      cases hi : P.info? t with
      | none => simp [hi] at hv
      | some i => simp [hi] at hv; exact ⟨⟨i, rfl, hv⟩, h1⟩
    · cases h2
  · cases hz
theorem bind_allocR {x : Option Value} {e : Nat} {mk : Nat → Value} (hx : (x.bind fun v => allocR h (mkCells v.cells.toList e) mk) = some r) :
    ∃ v, x = some v ∧ r = ⟨mk h.length, h ++ [mkCells v.cells.toList e], [], []⟩ := by
  cases x with
  | none => cases hx
  | some v => exact ⟨v, rfl, by simpa [allocR] using hx.symm⟩
theorem vr_ptrTo {m' : Mp} {n k : Nat} {mb : MB} (hm : m' n = some mb) (hb : mb.blk = k) (hs : mb.sh = 0) : VR m' (ptrTo n) (.pointer (some ⟨k, 0, none⟩)) := by
  have := VR.ptr (m := m') (o := 0) hm
  rw [hb, hs] at this
  exact this

theorem aop_alloc {e : TypeId} (hop : o.op = .alloc e) (hr : HR V m h w) (he : ((zeroA P e).bind fun v => allocR h (mkCells v.cells.toList 1) ptrTo) = some r) : OpRes P a o V m h w r := by
  obtain ⟨z, hz, rfl⟩ := bind_allocR he
  obtain ⟨⟨i, h1, h2⟩, h3⟩ := zeroA_spec hz
  have hv : VR m z z := .const h3
  refine OpRes.row hr (mk := ptrTo) (cmk := fun k => .pointer (some ⟨k, 0, none⟩)) (cc := z.cells) (ct := e) (fz := (0, 0)) (w' := { w with heap := w.heap.push (.cells z.cells e) }) hv.cells (fun h => h) rfl (fun o ho => by simp) (fun m' hm => vr_ptrTo hm rfl rfl) ?_
  simp [execOp, hop, Instr.alloc, run_zeroValue' h1 h2, newVar, newRow]
theorem aop_box {e : TypeId} {x : Operand} (hop : o.op = .box e x) (hr : HR V m h w) (ho : OpdR m σ a o) (he : ((opd σ x).bind fun v => allocR h (mkCells v.cells.toList 1) ptrTo) = some r) : OpRes P a o V m h w r := by
  obtain ⟨z, hz, rfl⟩ := bind_allocR he
  have hv := ho x (by simp [Op.operands, hop]) z hz
  refine OpRes.row hr (mk := ptrTo) (cmk := fun k => .pointer (some ⟨k, 0, none⟩)) (cc := (a.eval x).cells) (ct := e) (fz := (0, 0)) (w' := { w with heap := w.heap.push (.cells (a.eval x).cells e) }) hv.cells (fun h => h) rfl (fun o ho => by simp) (fun m' hm => vr_ptrTo hm rfl rfl) ?_
  simp [execOp, hop, Instr.box, newVar, newRow]

/-! ### load and store -/
theorem cells_blk (hr : HR V m h w) {b : Nat} {cs : List Value} {es : Nat} {flat own : Bool} (hv : V b) {mb : MB} (hm : m b = some mb) (hb : h[b]? = some (.cells cs es flat own)) :
    ∃ cc ct fz, w.heap[mb.blk]? = some (.cells cc ct fz) ∧ cc.size = mb.ext ∧ mb.esz = es ∧ mb.sh + cs.length ≤ mb.ext ∧ CellsR m flat cs cc mb.sh ∧ (own = true → mb.own = true ∧ ∀ o, o < mb.ext → ¬ (fz.1 ≤ o ∧ o < fz.2)) :=
  hr.blk b mb _ hv hm hb
theorem cellsAt_spec {b : Nat} {cs : List Value} (hc : cellsAt h b = some cs) : ∃ es flat own, h[b]? = some (.cells cs es flat own) := by
  unfold cellsAt at hc
  split at hc
  · rename_i x e f ow hx; cases hc; exact ⟨e, f, ow, hx⟩
  · cases hc
theorem loadVar_spec (hr : HR V m h w) {b off : Nat} {t : TypeId} {v : Value} {mb : MB} (hv : V b) (hm : m b = some mb) (hl : loadA P h t b off = some v) :
    ∃ cv, (loadVar t ⟨mb.blk, mb.sh + off, none⟩).run P w = .ok cv w ∧ VR m v cv := by
  unfold loadA at hl
  split at hl
  · rename_i d i cs hd hi hcs
    obtain ⟨es, flat, own, hb⟩ := cellsAt_spec hcs
    obtain ⟨cc, ct, fz, h1, h2, h3, h4, h5, h6⟩ := cells_blk hr hv hm hb
    have hag := run_isAgg' hd w
    have key : ∀ (hag : isAggD d = true), (rdN cs off i.size).map (fun l => Value.agg l.toArray) = some v → ∃ cv, (loadVar t ⟨mb.blk, mb.sh + off, none⟩).run P w = .ok cv w ∧ VR m v cv := by
      intro hag' hx
      simp only [Option.map_eq_some_iff] at hx
      obtain ⟨l, hl', rfl⟩ := hx
      obtain ⟨cl, c1, c2, c3⟩ := h5.read hl'
      refine ⟨.agg cl.toArray, ?_, .agg (by simpa using c1)⟩
      simp [loadVar, hag, hag', run_sizeOf' hi, run_loadCells h1 cl c2 c3]
    have key2 : ∀ (hag : isAggD d = false), cs[off]? = some v → ∃ cv, (loadVar t ⟨mb.blk, mb.sh + off, none⟩).run P w = .ok cv w ∧ VR m v cv := by
      intro hag' hx
      obtain ⟨⟨cv, e1, e2⟩, _⟩ := h5 off v hx
      refine ⟨cv, ?_, e2⟩
      simp [loadVar, hag, hag', cell_of h1, e1]
    split at hl
    · exact key rfl hl
    · exact key rfl hl
    · rename_i n1 n2
      refine key2 ?_ hl
      cases d <;> first | rfl | exact absurd rfl (n1 _) | exact absurd rfl (n2 _ _)
  · cases hl
theorem vr_ptr_inv {b off : Nat} {cv : Value} (hv : VR m (.pointer (some ⟨b, off, none⟩)) cv) : ∃ mb, m b = some mb ∧ cv = .pointer (some ⟨mb.blk, mb.sh + off, none⟩) := by
  cases hv with | ptr hm => exact ⟨_, hm, rfl⟩
theorem aop_load {t : TypeId} {x : Operand} (hop : o.op = .load t x) (hr : HR V m h w) (ho : OpdR m σ a o)
    (he : (match opd σ x with | some (.pointer (some ⟨b, off, none⟩)) => (loadA P h t b off).map fun v => (⟨v, h, [b], []⟩ : OR) | _ => none) = some r) (hrd : ∀ b, b ∈ r.rd → V b) : OpRes P a o V m h w r := by
  split at he
  · rename_i b off hx
    simp only [Option.map_eq_some_iff] at he
    obtain ⟨v, hl, rfl⟩ := he
    obtain ⟨mb, hm, hcv⟩ := vr_ptr_inv (ho x (by simp [Op.operands, hop]) _ hx)
    obtain ⟨cv, h1, h2⟩ := loadVar_spec hr (hrd b (by simp)) hm hl
    refine .pure' hr (cv := cv) ?_ h2
    simp [execOp, hop, Instr.loadAt, hcv, Instr.sureAddr, h1]
  · cases he
theorem aggSize_spec {t : TypeId} {s : Nat} (hs : aggSize P t = some s) : ∃ i, P.info? t = some i ∧ i.size = s := by
  simp only [aggSize, Option.map_eq_some_iff] at hs; exact hs
theorem all_cellV {vs : List Value} {cvs : List Value} (hl : VRL m vs cvs) (h : ∀ v, v ∈ vs → cellV v = true) : ∀ v, v ∈ cvs → cellV v = true := by
  intro v hv
  obtain ⟨i, hi⟩ := List.getElem?_of_mem hv
  have hlt : i < vs.length := by rw [← hl.length]; exact (List.getElem?_eq_some_iff.1 hi).1
  obtain ⟨cv, e1, e2⟩ := hl.get i vs[i] (List.getElem?_eq_getElem hlt)
  rw [e1] at hi; cases hi
  rw [e2.cellV]
  exact h _ (List.getElem_mem hlt)
/-- cells are written in both heaps -/
theorem store_step (hr : HR V m h w) {b off : Nat} {vs cvs : List Value} {h' : List Blk} {mb : MB} (hv : V b) (hm : m b = some mb) (hl : VRL m vs cvs) (hs : storeB h b off vs = some h') :
    ∃ w', (storeCells ⟨mb.blk, mb.sh + off, none⟩ cvs).run P w = .ok () w' ∧ HR V m h' w' ∧ Ext m h.length h w [b] m h' w' := by
  unfold storeB at hs
  split at hs
  · rename_i cs e flat hb
    split at hs
    · rename_i cs' hw
      rcases cond_eq_some hs with ⟨hc, hs⟩ | ⟨_, hs⟩
      · cases hs
        obtain ⟨cc, ct, fz, h1, h2, h3, h4, h5, h6⟩ := cells_blk hr hv hm hb
        obtain ⟨hown, hz⟩ := h6 rfl
        obtain ⟨q1, q2, q3, q4⟩ := wrN_spec hw
        have hlen := hl.length
        have hbound : mb.sh + off + 0 + cvs.length ≤ cc.size ∨ cvs = [] := by
          cases vs with
          | nil => right; cases hl; rfl
          | cons x xs => left; have := q2 (by simp); rw [hlen]; omega
        by_cases hnil : cvs = []
        · have hvs : vs = [] := by
            have : vs.length = 0 := by rw [← hlen, hnil]; rfl
            exact List.eq_nil_of_length_eq_zero this
          subst hnil; subst hvs
          simp [wrN] at hw
          subst hw
          have : h.set b (Blk.cells cs e flat true) = h := by
            refine List.ext_getElem? fun i => ?_
            by_cases hi : i = b
            · subst hi; rw [List.getElem?_set_self (hr.dom _ _ hm).1, hb]
            · rw [List.getElem?_set_ne (Ne.symm hi)]
          rw [this]
          exact ⟨w, by simp [storeCells], hr, (Ext.refl m h w fun b mb hm => (hr.dom b mb hm).1).mono (by simp)⟩
        · have hb' := hbound.resolve_right hnil
          obtain ⟨w', hrun, ⟨s1, s2, so, su, sta, cc', s3, s4, s5⟩⟩ := run_storeCells (P := P) (b := mb.blk) (o := mb.sh + off) cvs 0 w cc ct fz h1 hb' (fun j a1 a2 => hz j (by omega)) (all_cellV hl q3)
          refine ⟨w', hrun, hr.put hv hm hb rfl hown s1 s2 (hq := ⟨so, su, sta⟩) ⟨cc', ct, fz, s3, by omega, h3, by omega, fun i v hi => ?_, fun _ => ⟨hown, hz⟩⟩⟩
          rw [q4 i] at hi
          rw [s5 (mb.sh + i)]
          by_cases hin : off ≤ i ∧ i < off + vs.length
          · rw [if_pos hin] at hi
            rw [if_pos (by omega)]
            obtain ⟨cv, e1, e2⟩ := hl.get _ v hi
            refine ⟨⟨cv, by rw [show mb.sh + i - (mb.sh + off + 0) = i - off by omega]; exact e1, e2⟩, fun hf => ?_⟩
            subst hf
            simp at hc
            exact hc v (List.mem_of_getElem? hi)
          · rw [if_neg hin] at hi
            rw [if_neg (by omega)]
            exact h5 i v hi
      · cases hs
    · cases hs
  · cases hs
theorem aop_store {t : TypeId} {x y : Operand} (hop : o.op = .store t x y) (hr : HR V m h w) (ho : OpdR m σ a o)
    (he : (match opd σ x, opd σ y, aggSize P t with
      | some (.pointer (some ⟨b, off, none⟩)), some v, some s => if v.cells.size = s then (storeB h b off v.cells.toList).map fun h' => (⟨undef, h', [b], [b]⟩ : OR) else none
      | _, _, _ => none) = some r) (hrd : ∀ b, b ∈ r.rd → V b) : OpRes P a o V m h w r := by
  split at he
  · rename_i b off v s hx hy hs
    split at he
    · rename_i hsz
      simp only [Option.map_eq_some_iff] at he
      obtain ⟨h', hst, rfl⟩ := he
      obtain ⟨i, hi, hi2⟩ := aggSize_spec hs
      obtain ⟨mb, hm, hcv⟩ := vr_ptr_inv (ho x (by simp [Op.operands, hop]) _ hx)
      have hyv := ho y (by simp [Op.operands, hop]) _ hy
      obtain ⟨w', hrun, h1, h2⟩ := store_step (P := P) hr (hrd b (by simp)) hm hyv.cells hst
      refine ⟨undef, w', m, .inr (.inl ⟨?_, rfl⟩), .undef, ?_, h2⟩
      · have hsz' : (a.eval y).cells.size = i.size := by rw [hyv.tmps, hsz, hi2]
        simp [execOp, hop, Instr.storeAt, hcv, Instr.sureAddr, storeVar, run_sizeOf' hi, hsz', hrun]
      · have := h1.more
        have hlen : h'.length = h.length := by
          unfold storeB at hst
          split at hst
          · split at hst
            · rcases cond_eq_some hst with ⟨_, e⟩ | ⟨_, e⟩
              · cases e; simp
              · cases e
            · cases hst
          · cases hst
        rw [hlen] at this
        exact this
    · cases he
  · cases he
end
end Go.GE
