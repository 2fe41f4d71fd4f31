/-
  GE, part 13: regions that keep the order of the text.
-/
import Derived.Test.YtkmompbfcgjgmaaE12
set_option autoImplicit false
set_option linter.unusedVariables false
set_option linter.unusedSimpArgs false
namespace Go.GE
variable {P : Program}

theorem aop_sound {E : Ev} {V : Nat → Prop} {m : Mp} {h : List Blk} {w : World} {r : OR} {a : Act} {o : Oper} {σ : Tm} (hE : RunOK P E) (hE2 : RndOK P E) (hr : HR V m h w) (ho : OpdR m σ a o)
    (he : aop P E σ h o = some r) (hrd : ∀ b, b ∈ r.rd → V b) : OpRes P a o V m h w r ∧ ∀ c, o.op ≠ .defer c := by
  cases hop : o.op <;> simp only [aop, hop] at he
  case move => exact ⟨aop_move (.inl hop) hr ho he, by simp⟩
  case assign => exact ⟨aop_move (.inr hop) hr ho he, by simp⟩
  case pick => exact ⟨aop_pick hop hr ho he, by simp⟩
  case alloc => exact ⟨aop_alloc hop hr he, by simp⟩
  case box => exact ⟨aop_box hop hr ho he, by simp⟩
  case build => exact ⟨aop_build hop hr ho he, by simp⟩
  case buildSlice => exact ⟨aop_buildSlice hop hr ho he, by simp⟩
  case load => exact ⟨aop_load hop hr ho he hrd, by simp⟩
  case store => exact ⟨aop_store hop hr ho he hrd, by simp⟩
  case nilCheck => exact ⟨aop_nilCheck hop hr ho he, by simp⟩
  case binOp => exact ⟨aop_bin hop hr ho he, by simp⟩
  case unOp => exact ⟨aop_un hop hr ho he, by simp⟩
  case convert => exact ⟨aop_convert hop hr ho he hrd, by simp⟩
  case makeInterface => exact ⟨aop_makeInterface hop hr ho he, by simp⟩
  case makeFunc => exact ⟨aop_makeFunc hop hr ho he, by simp⟩
  case makeMap t rs => cases rs with
    | none => exact ⟨aop_makeMap hop hr he, by simp⟩
    | some x => simp only [] at he; cases he
  case makeSlice => exact ⟨aop_makeSlice hop hr ho he, by simp⟩
  case slice => exact ⟨aop_slice hop hr ho he hrd, by simp⟩
  case fieldAddr => exact ⟨aop_fieldAddr hop hr ho he, by simp⟩
  case field => exact ⟨aop_field hop hr ho he, by simp⟩
  case indexAddr => exact ⟨aop_indexAddr hop hr ho he, by simp⟩
  case index => exact ⟨aop_index hop hr ho he, by simp⟩
  case lookup => exact ⟨aop_lookup hop hr ho he hrd, by simp⟩
  case mapUpdate => exact ⟨aop_mapUpdate (.inl hop) hr ho he hrd, by simp⟩
  case insert => exact ⟨aop_mapUpdate (.inr hop) hr ho he hrd, by simp⟩
  case range => exact ⟨aop_range hop hr ho he, by simp⟩
  case next x s => cases s with
    | true => exact ⟨aop_next hop hr ho he hrd, by simp⟩
    | false => simp only [] at he; cases he
  case typeAssert => exact ⟨aop_typeAssert hop hr ho he, by simp⟩
  case extract => exact ⟨aop_extract hop hr ho he, by simp⟩
  case call => exact ⟨aop_call hE hE2 hop hr ho he hrd, by simp⟩
  all_goals cases he

/-! ### one operation, in the machine -/
theorem op_steps {ops : Array Oper} {i : Nat} {rest : List Nat} {o : Oper} {a : Act} {w w' : World} {cv : Value} (hr : OpRuns P a o w cv w') (hi : ops[i]? = some o) (hw : Region.wanted o (yielded ops a.tmps) = true) (hnd : ∀ c, o.op ≠ .defer c)
    (b : Frame) (k : List Item) (cs : List Frame) : Steps P (lone (b.atR a (.inRegion ops (i :: rest) :: k)) cs w) (lone (b.atR (a.put o.dst cv) (.inRegion ops rest :: k)) cs w') := by
  have hg := stepGR_op (P := P) (b := b) (a := a) (k := k) (cs := cs) (w := w) (rest := rest) hi hw
  rw [Oper.semAt_eq _ _ _ hnd] at hg
  have hfin : ∀ v, (b.atR a (.inRegion ops (i :: rest) :: k)).finish v = b.atR (a.put o.dst v) (.inRegion ops rest :: k) := by
    intro v; rw [Frame.finish_atR, hi]; rfl
  rcases hr with hr | ⟨hr, rfl⟩ | ⟨f, cargs, w1, hr, hs⟩ | ⟨l, f, tm, as, bd, w1, hr, hs⟩
  · refine .one (step_lone_go ?_)
    rw [hg, ← hfin]; simp [stepG.apply, hr]
  · refine .one (step_lone_go ?_)
    rw [hg, ← hfin]; simp [stepG.apply, hr]
  · have henter : step P (lone (b.atR a (.inRegion ops (i :: rest) :: k)) cs w) = .next (lone (Frame.enter P f cargs .normal) (b.atR a (.inRegion ops (i :: rest) :: k) :: cs) w1) :=
      step_lone_go (by rw [hg]; simp [stepG.apply, hr, Frame.atR])
    refine .head henter ?_
    have := hs (b.atR a (.inRegion ops (i :: rest) :: k)) cs
    rw [hfin] at this; exact this
  · have henter : step P (lone (b.atR a (.inRegion ops (i :: rest) :: k)) cs w) = .next (lone (Frame.round l f tm as bd .normal) (b.atR a (.inRegion ops (i :: rest) :: k) :: cs) w1) :=
      step_lone_go (by rw [hg]; simp [stepG.apply, hr, Frame.atR])
    refine .head henter ?_
    have := hs (b.atR a (.inRegion ops (i :: rest) :: k)) cs
    rw [hfin] at this; exact this
theorem op_skips {ops : Array Oper} {i : Nat} {rest : List Nat} {o : Oper} {a : Act} {w : World} (hi : ops[i]? = some o) (hw : Region.wanted o (yielded ops a.tmps) = false)
    (b : Frame) (k : List Item) (cs : List Frame) : Steps P (lone (b.atR a (.inRegion ops (i :: rest) :: k)) cs w) (lone (b.atR (a.put o.dst undef) (.inRegion ops rest :: k)) cs w) := by
  have := stepR_op_skip (P := P) (b := b) (a := a) (k := k) (cs := cs) (w := w) (ops := ops) (i := i) (rest := rest) (by simp [hi, hw])
  simp only [hi, Option.bind_some] at this
  exact .one this

/-! ### temporaries -/
theorem wantedA_spec {m : Mp} {ops : Array Oper} {σ : Tm} {tm : Array Value} {o : Oper} {b : Bool}
    (ht : ∀ g want t v, o.guard = some (g, want) → (ops[g]?).bind (·.dst) = some t → lk σ t = some v → ∃ cv, tm[t]? = some cv ∧ VR m v cv) (he : wantedA ops.toList σ o = some b) : Region.wanted o (yielded ops tm) = b := by
  unfold wantedA at he
  unfold Region.wanted
  split at he
  · rename_i hg; cases he; rw [hg]
  · rename_i j want hg
    rw [hg]
    simp only [Array.getElem?_toList] at he
    split at he
    · rename_i t hd
      simp only [yielded, hd, Option.bind_some]
      split at he
      · rename_i x hx
        cases he
        obtain ⟨cv, h1, h2⟩ := ht j want t _ hg hd hx
        cases h2
        rw [h1]
        cases x <;> cases want <;> rfl
      · rename_i cs hx
        rcases cond_eq_some he with ⟨hc, he⟩ | ⟨_, he⟩
        · cases he
          obtain ⟨cv, h1, h2⟩ := ht j want t _ hg hd hx
          cases h2
          rw [h1]; rfl
        · cases he
      · cases he
    · cases he
theorem opdR_of {m : Mp} {σ : Tm} {a : Act} {o : Oper} (ht : ∀ t v, Operand.tmp t ∈ o.op.operands.toList → lk σ t = some v → ∃ cv, a.tmps[t]? = some cv ∧ VR m v cv) : OpdR m σ a o := by
  intro x hx v hv
  cases x with
  | tmp t =>
    obtain ⟨cv, h1, h2⟩ := ht t v hx hv
    simp only [Act.eval]
    rw [Array.getD_eq_getD_getElem?, h1]; exact h2
  | const c =>
    obtain ⟨rfl, hc⟩ := opd_const hv
    exact .const hc
  | global g => cases hv
  | func f => cases hv; exact .func (.func f) .nil .nil
theorem put_tmr {m : Mp} {σ : Tm} {a : Act} {dst : Option Tmp} {v cv : Value} (ht : TmR m σ a.tmps) (hv : VR m v cv) (hd : ∀ t, dst = some t → t < a.tmps.size) : TmR m (putO σ dst v) (a.put dst cv).tmps := by
  cases dst with
  | none => exact ht
  | some d =>
    intro t u hu
    simp only [putO, lk_put] at hu
    simp only [Act.put]
    split at hu
    · rename_i e; subst e; cases hu
      exact ⟨cv, by simp [hd d rfl], hv⟩
    · rename_i e
      obtain ⟨cu, h1, h2⟩ := ht t u hu
      exact ⟨cu, by rw [Array.getElem?_setIfInBounds_ne e]; exact h1, h2⟩
theorem put_size {a : Act} {dst : Option Tmp} {cv : Value} : (a.put dst cv).tmps.size = a.tmps.size := by
  cases dst <;> simp [Act.put]
theorem put_defers {a : Act} {dst : Option Tmp} {cv : Value} : (a.put dst cv).defers = a.defers := by
  cases dst <;> rfl
theorem addWr_mem {base : Nat} : ∀ (l wr : List Nat) (b : Nat), b ∈ addWr base wr l ↔ b ∈ wr ∨ (b ∈ l ∧ b < base) := by
  intro l
  induction l with
  | nil => intro wr b; simp [addWr]
  | cons x l ih =>
    intro wr b
    simp only [addWr, ih]
    rcases Bool.eq_false_or_eq_true (Nat.blt x base) with h | h
    · rw [h]; simp only [cond_true, mem_ins, List.mem_cons]
      have := blt_iff.1 h
      constructor
      · rintro ((h1 | rfl) | h1)
        · exact .inl h1
        · exact .inr ⟨.inl rfl, this⟩
        · exact .inr ⟨.inr h1.1, h1.2⟩
      · rintro (h1 | ⟨rfl | h1, h2⟩)
        · exact .inl (.inl h1)
        · exact .inl (.inr rfl)
        · exact .inr ⟨h1, h2⟩
    · rw [h]; simp only [cond_false, List.mem_cons]
      have := blt_false.1 h
      constructor
      · rintro (h1 | h1)
        · exact .inl h1
        · exact .inr ⟨.inr h1.1, h1.2⟩
      · rintro (h1 | ⟨rfl | h1, h2⟩)
        · exact .inl h1
        · omega
        · exact .inr ⟨h1, h2⟩

/-! ### temporaries that are dropped, states that are swept -/
def ND (σ : Tm) : Prop := (σ.map (·.1)).Nodup
theorem has_iff {σ : Tm} {t : Nat} : has σ t = true ↔ t ∈ σ.map (·.1) := by
  induction σ with
  | nil => simp [has]
  | cons p r ih =>
    obtain ⟨x, v⟩ := p
    simp only [has, List.map_cons, List.mem_cons]
    rcases Bool.eq_false_or_eq_true (Nat.beq x t) with h | h
    · rw [h]; simp [beq_iff.1 h]
    · rw [h]; simp only [cond_false, ih]
      have := beq_false.1 h
      constructor
      · exact .inr
      · rintro (rfl | h2)
        · exact absurd rfl this
        · exact h2
theorem rep_keys {σ : Tm} {t : Nat} {v : Value} : (rep σ t v).map (·.1) = σ.map (·.1) := by
  induction σ with
  | nil => rfl
  | cons p r ih =>
    obtain ⟨x, u⟩ := p
    simp only [rep]
    rcases Bool.eq_false_or_eq_true (Nat.beq x t) with h | h
    · rw [h]; simp
    · rw [h]; simp [ih]
theorem ND.put {σ : Tm} (h : ND σ) (t : Nat) (v : Value) : ND (put σ t v) := by
  unfold GE.put
  rcases Bool.eq_false_or_eq_true (has σ t) with h1 | h1
  · rw [h1]; simp only [cond_true, ND, rep_keys]; exact h
  · rw [h1]; simp only [cond_false, ND, List.map_cons, List.nodup_cons]
    exact ⟨fun hm => by (rw [has_iff.2 hm] at h1; cases h1), h⟩
theorem ND.putO {σ : Tm} (h : ND σ) (t : Option Nat) (v : Value) : ND (putO σ t v) := by
  cases t with
  | none => exact h
  | some t => exact h.put t v
theorem lk_of_mem {σ : Tm} (h : ND σ) {t : Nat} {v : Value} (hm : (t, v) ∈ σ) : lk σ t = some v := by
  induction σ with
  | nil => cases hm
  | cons p r ih =>
    obtain ⟨x, u⟩ := p
    simp only [ND, List.map_cons, List.nodup_cons] at h
    rcases List.mem_cons.1 hm with e | e
    · cases e; simp [lk]
    · have hne : x ≠ t := fun e' => h.1 (by subst e'; exact List.mem_map.2 ⟨_, e, rfl⟩)
      simp only [lk, beq_false.2 hne, cond_false]
      exact ih h.2 e
theorem TmR.drop {m : Mp} {σ : Tm} {tm : Array Value} (h : TmR m σ tm) (hn : ND σ) (k : Nat) : TmR m (σ.drop k) tm :=
  fun t v hv => h t v (lk_of_mem hn (List.mem_of_mem_drop (lk_mem hv)))
theorem ND.drop {σ : Tm} (h : ND σ) (k : Nat) : ND (σ.drop k) := by
  unfold ND; rw [List.map_drop]; exact h.sublist (List.drop_sublist _ _)
theorem lk_keep {l : List Nat} {σ : Tm} {t : Nat} {v : Value} (h : lk (keepT l σ) t = some v) : lk σ t = some v := by
  induction σ with
  | nil => cases h
  | cons p r ih =>
    obtain ⟨x, u⟩ := p
    simp only [keepT, List.filter_cons] at h
    rcases Bool.eq_false_or_eq_true (mem l x) with h1 | h1
    · simp only [h1, if_true, lk] at h
      simp only [lk]
      rcases cond_eq_some h with ⟨q1, q2⟩ | ⟨q1, q2⟩
      · rw [q1]; exact q2
      · rw [q1]; exact ih q2
    · simp only [h1, Bool.false_eq_true, if_false] at h
      simp only [lk]
      have hl := ih h
      rcases Bool.eq_false_or_eq_true (Nat.beq x t) with h2 | h2
      · exfalso
        have := beq_iff.1 h2; subst this
        have hm := lk_mem h
        have := (List.mem_filter.1 hm).2
        rw [h1] at this; cases this
      · rw [h2]; exact hl
theorem lk_keepO {l : List Nat} {σ : Tm} {t : Nat} {v : Value} (h : lk (keepO l σ) t = some v) : lk σ t = some v := by
  induction l with
  | nil => cases h
  | cons u r ih =>
    unfold keepO at h
    split at h
    · rename_i x hx
      rw [lk_put] at h
      split at h
      · rename_i e; subst e; rw [hx]; exact h
      · exact ih h
    · exact ih h
theorem ND.keepO {σ : Tm} (l : List Nat) : ND (keepO l σ) := by
  induction l with
  | nil => exact List.nodup_nil
  | cons u r ih =>
    unfold GE.keepO
    split
    · exact ih.put _ _
    · exact ih
theorem TmR.rep {m : Mp} {σ : Tm} {tm : Array Value} (h : TmR m σ tm) {t : Nat} {v v' : Value} (hv : lk σ t = some v) (hvv : ∀ cv, VR m v cv → VR m v' cv) : TmR m (rep σ t v') tm := by
  intro u x hx
  rw [lk_rep] at hx
  split at hx
  · rename_i e
    subst e
    rcases Bool.eq_false_or_eq_true (has σ t) with h1 | h1
    · rw [h1] at hx
      cases hx
      obtain ⟨cv, q1, q2⟩ := h t v hv
      exact ⟨cv, q1, hvv cv q2⟩
    · rw [h1] at hx; cases hx
  · exact h u x hx
theorem TmR.keepO {m : Mp} {σ : Tm} {tm : Array Value} (h : TmR m σ tm) (l : List Nat) : TmR m (keepO l σ) tm := fun t v hv => h t v (lk_keepO hv)
theorem TmR.keep {m : Mp} {σ : Tm} {tm : Array Value} (h : TmR m σ tm) (l : List Nat) : TmR m (keepT l σ) tm := fun t v hv => h t v (lk_keep hv)
theorem ND.keep {σ : Tm} (h : ND σ) (l : List Nat) : ND (keepT l σ) := h.sublist ((List.filter_sublist).map _)
theorem renT_keys {f : Nat → Option Nat} {σ σ' : Tm} (h : renT f σ = some σ') : σ'.map (·.1) = σ.map (·.1) := by
  induction σ generalizing σ' with
  | nil => cases h; rfl
  | cons p r ih =>
    obtain ⟨x, u⟩ := p
    simp only [renT] at h
    split at h
    · rename_i v' r' h1 h2
      cases h
      simp [ih h2]
    · cases h
theorem sweep_keys {base : Nat} {st st' : St} (h : sweep base st = some st') : st'.σ.map (·.1) = st.σ.map (·.1) := by
  unfold sweep at h
  simp only at h
  split at h
  · rename_i σ news ws h1 h2 h3
    cases h
    exact renT_keys h1
  · cases h
theorem ndk_iff {σ : Tm} (h : ndk σ = true) : ND σ := by
  induction σ with
  | nil => exact List.nodup_nil
  | cons p r ih =>
    obtain ⟨x, u⟩ := p
    simp only [ndk] at h
    rcases Bool.eq_false_or_eq_true (has r x) with h1 | h1
    · rw [h1] at h; cases h
    · rw [h1] at h
      simp only [ND, List.map_cons, List.nodup_cons]
      exact ⟨fun hm => by (rw [has_iff.2 hm] at h1; cases h1), ih h⟩
/-! ### the state of a frame -/
def dsOf (rs : List Nat) : List Deferred := rs.map fun r => { target := .collected r, args := #[] }
structure DsOK (m : Mp) (w0 : World) (rs : List Nat) (w : World) : Prop where
  nodup : rs.Nodup
  at_ : ∀ r, r ∈ rs → w.heap[r]? = some (.deferred (some []))
  off : ∀ r, r ∈ rs → ∀ b mb, m b = some mb → mb.blk ≠ r
  new : ∀ r, r ∈ rs → w0.heap.size ≤ r
structure SR (nt : Nat) (m0 : Mp) (h0 : List Blk) (w0 : World) (rs : List Nat) (m : Mp) (st : St) (tm : Array Value) (w : World) : Prop where
  tmr : TmR m st.σ tm
  nd : ND st.σ
  size : tm.size = nt
  hr : HR (fun _ => True) m st.h w
  ext : Ext m0 h0.length h0 w0 st.wr m st.h w
  wr : ∀ b, b ∈ st.wr → b < h0.length
  ds : DsOK m w0 rs w
theorem DsOK.ext {m m' : Mp} {w0 w w' : World} {rs wr : List Nat} {h h' : List Blk} (hd : DsOK m w0 rs w) (he : Ext m h.length h w wr m' h' w') : DsOK m' w0 rs w' where
  nodup := hd.nodup
  at_ r hr := by
    have h1 := hd.at_ r hr
    have hlt : r < w.heap.size := (Array.getElem?_eq_some_iff.1 h1).1
    rw [he.same r hlt fun b mb _ hm _ _ => hd.off r hr b mb hm]; exact h1
  off r hr b mb hm := by
    have h1 := hd.at_ r hr
    have hlt : r < w.heap.size := (Array.getElem?_eq_some_iff.1 h1).1
    by_cases hb : b < h.length
    · exact hd.off r hr b mb ((he.old b hb).symm.trans hm)
    · intro e
      obtain ⟨b0, mb0, _, q2, _, _, q5⟩ := he.fresh b mb (by omega) hm (by omega)
      exact hd.off r hr b0 mb0 q2 (q5.trans e)
  new := hd.new
theorem DsOK.sub {m m' : Mp} {w0 w : World} {rs : List Nat} (hd : DsOK m w0 rs w) (hm : ∀ b mb, m' b = some mb → ∃ c, m c = some mb) : DsOK m' w0 rs w :=
  ⟨hd.nodup, hd.at_, fun r hr b mb hb => let ⟨c, hc⟩ := hm b mb hb; hd.off r hr c mb hc, hd.new⟩
theorem DsOK.drawn {m : Mp} {w0 w w' : World} {rs : List Nat} (hd : DsOK m w0 rs w) (hw : w'.heap = w.heap) : DsOK m w0 rs w' :=
  ⟨hd.nodup, fun r hr => by rw [hw]; exact hd.at_ r hr, hd.off, hd.new⟩
/-- an operation in a frame -/
theorem SR.step {nt : Nat} {m0 m m' : Mp} {h0 : List Blk} {w0 w w' : World} {rs : List Nat} {st : St} {a : Act} {r : OR} {cv : Value} {dst : Option Tmp} (hs : SR nt m0 h0 w0 rs m st a.tmps w)
    (hv : VR m' r.v cv) (hh : HR (fun _ => True) m' r.h w') (he : Ext m st.h.length st.h w r.wr m' r.h w') (hd : ∀ t, dst = some t → t < nt) :
    SR nt m0 h0 w0 rs m' ⟨putO st.σ dst r.v, r.h, addWr h0.length st.wr r.wr⟩ (a.put dst cv).tmps w' where
  tmr := put_tmr (hs.tmr.mono fun b mb hb => by rw [he.old b (hs.hr.dom b mb hb).1]; exact hb) hv fun t ht => by rw [hs.size]; exact hd t ht
  nd := hs.nd.putO _ _
  size := put_size.trans hs.size
  hr := hh
  ext := hs.ext.trans he hs.ext.len (fun x hx => (addWr_mem _ _ _).2 (.inl hx)) fun x hx hlt => (addWr_mem _ _ _).2 (.inr ⟨hx, hlt⟩)
  wr b hb := by
    rcases (addWr_mem _ _ _).1 hb with h | h
    · exact hs.wr b h
    · exact h.2
  ds := hs.ds.ext he
theorem dstOk_spec {nt : Nat} {ops : List Oper} (h : dstOk nt ops = true) {i : Nat} {o : Oper} (hi : ops[i]? = some o) : ∀ t, o.dst = some t → t < nt := by
  intro t ht
  have := List.all_eq_true.1 h o (List.mem_of_getElem? hi)
  rw [ht] at this
  exact blt_iff.1 this
theorem opStep_spec {E : Ev} (hE : RunOK P E) (hE2 : RndOK P E) {nt : Nat} {m0 m : Mp} {h0 : List Blk} {w0 w : World} {rs : List Nat} {st st' : St} {a : Act} {ops : Array Oper} {i : Nat} {o : Oper} {fp : Fp} (hs : SR nt m0 h0 w0 rs m st a.tmps w)
    (hi : ops[i]? = some o) (hd : ∀ t, o.dst = some t → t < nt) (he : opStep P E h0.length ops.toList o st = some (st', fp)) :
    ∃ a' w' m', SR nt m0 h0 w0 rs m' st' a'.tmps w' ∧ a'.defers = a.defers ∧
      ∀ (b : Frame) (rest : List Nat) (k : List Item) (cs : List Frame), Steps P (lone (b.atR a (.inRegion ops (i :: rest) :: k)) cs w) (lone (b.atR a' (.inRegion ops rest :: k)) cs w') := by
  unfold opStep at he
  split at he
  · rename_i hw
    split at he
    · rename_i r hr
      cases he
      have hwant := wantedA_spec (tm := a.tmps) (fun g want t v _ _ hv => hs.tmr t v hv) hw
      obtain ⟨⟨cv, w', m', q1, q2, q3, q4⟩, hnd⟩ := aop_sound hE hE2 hs.hr (opdR_of fun t v _ hv => hs.tmr t v hv) hr fun _ _ => trivial
      refine ⟨a.put o.dst cv, w', m', hs.step q2 (q3.sub fun _ _ => .inl trivial) q4 hd, put_defers, fun b rest k cs => op_steps q1 hi hwant hnd b k cs⟩
    · cases he
  · rename_i hw
    cases he
    have hwant := wantedA_spec (tm := a.tmps) (fun g want t v _ _ hv => hs.tmr t v hv) hw
    refine ⟨a.put o.dst undef, w, m, ⟨put_tmr hs.tmr .undef fun t ht => by rw [hs.size]; exact hd t ht, hs.nd.putO _ _, put_size.trans hs.size, hs.hr, hs.ext, hs.wr, hs.ds⟩, put_defers, fun b rest k cs => op_skips hi hwant b k cs⟩
  · cases he
theorem runOps_spec {E : Ev} (hE : RunOK P E) (hE2 : RndOK P E) {nt : Nat} {m0 : Mp} {h0 : List Blk} {w0 : World} {rs : List Nat} {ops : Array Oper} (hd : dstOk nt ops.toList = true) :
    ∀ (n i : Nat) (st st' : St) (a : Act) (w : World) (m : Mp), i + n = ops.size → SR nt m0 h0 w0 rs m st a.tmps w → runOps P E h0.length ops.toList (ops.toList.drop i) st = some st' →
    ∃ a' w' m', SR nt m0 h0 w0 rs m' st' a'.tmps w' ∧ a'.defers = a.defers ∧
      ∀ (b : Frame) (k : List Item) (cs : List Frame), Steps P (lone (b.atR a (.inRegion ops (List.range' i n) :: k)) cs w) (lone (b.atR a' k) cs w') := by
  intro n
  induction n with
  | zero =>
    intro i st st' a w m hin hs he
    rw [List.drop_eq_nil_of_le (by simp; omega)] at he
    simp only [runOps] at he
    cases he
    exact ⟨a, w, m, hs, rfl, fun b k cs => .one stepR_region_end⟩
  | succ n ih =>
    intro i st st' a w m hin hs he
    have hlt : i < ops.toList.length := by simp; omega
    rw [List.drop_eq_getElem_cons hlt] at he
    simp only [runOps] at he
    split at he
    · rename_i st1 fp h1
      have hi : ops[i]? = some ops.toList[i] := by simp
      obtain ⟨a1, w1, m1, q1, q2, q3⟩ := opStep_spec hE hE2 hs hi (dstOk_spec hd (List.getElem?_eq_getElem hlt)) h1
      obtain ⟨a2, w2, m2, r1, r2, r3⟩ := ih (i + 1) st1 st' a1 w1 m1 (by omega) q1 he
      refine ⟨a2, w2, m2, r1, r2.trans q2, fun b k cs => ?_⟩
      rw [List.range'_succ]
      exact (q3 b _ k cs).trans (r3 b k cs)
    · cases he
end Go.GE
