/-
  GE, part 2: the machine's memory operations, as far as they are used.
-/
import Derived.Test.YtkmompbfcgjgmaaE1
import Derived.Laws.Sem
set_option autoImplicit false
set_option linter.unusedVariables false
namespace Go.GE
variable {P : Program}

theorem run_underlying' {t : TypeId} {d : TypeDesc} (h : P.underlying t = some d) (w : World) : (underlying t).run P w = .ok d w := by
  simp [underlying, h]
theorem run_typeInfo' {t : TypeId} {i : TypeInfo} (h : P.info? t = some i) (w : World) : (typeInfo t).run P w = .ok i w := by
  simp [typeInfo, h]
theorem run_sizeOf' {t : TypeId} {i : TypeInfo} (h : P.info? t = some i) (w : World) : (sizeOf t).run P w = .ok i.size w := by
  simp [sizeOf, run_typeInfo' h]
theorem run_zeroValue' {t : TypeId} {i : TypeInfo} {z : Value} (h : P.info? t = some i) (hz : i.zero = some z) (w : World) : (zeroValue t).run P w = .ok z w := by
  simp [zeroValue, run_typeInfo' h, hz]
def isAggD : TypeDesc → Bool
  | .struct _ | .array _ _ => true
  | _ => false
theorem run_isAgg' {t : TypeId} {d : TypeDesc} (h : P.underlying t = some d) (w : World) : (isAgg t).run P w = .ok (isAggD d) w := by
  simp only [isAgg, Sem.run_bind, run_underlying' h, Result.andThen_ok]
  cases d <;> rfl

theorem add_none (b o n : Nat) : (⟨b, o, none⟩ : Addr).add n = ⟨b, o + n, none⟩ := by
  unfold Addr.add; split <;> simp_all
theorem cell_of {w : World} {b : Nat} {cc : Array Value} {ct : TypeId} {fz : Nat × Nat} (h : w.heap[b]? = some (.cells cc ct fz)) (o : Nat) : w.cell? ⟨b, o, none⟩ = cc[o]? := by
  simp [World.cell?, h]
theorem frozen_of {w : World} {b : Nat} {cc : Array Value} {ct : TypeId} {fz : Nat × Nat} (h : w.heap[b]? = some (.cells cc ct fz)) (o : Nat) : w.frozen? ⟨b, o, none⟩ = (decide (fz.1 ≤ o) && decide (o < fz.2)) := by
  obtain ⟨lo, hi⟩ := fz
  simp [World.frozen?, h]

theorem run_loadCellsFrom {w : World} {b : Nat} {cc : Array Value} {ct : TypeId} {fz : Nat × Nat} (h : w.heap[b]? = some (.cells cc ct fz)) (o : Nat) :
    ∀ (n i : Nat) (acc : Array Value) (l : List Value), l.length = n → (∀ (k : Nat) (v : Value), l[k]? = some v → cc[o + i + k]? = some v) →
      (loadCellsFrom ⟨b, o, none⟩ i n acc).run P w = .ok (acc ++ l.toArray) w := by
  intro n
  induction n with
  | zero => intro i acc l hl _; have : l = [] := by simpa using hl
            subst this; simp [loadCellsFrom]
  | succ n ih =>
    intro i acc l hl hc
    cases l with
    | nil => simp at hl
    | cons v l =>
      have h0 := hc 0 v rfl
      simp only [loadCellsFrom, Sem.run_bind, run_load, add_none, cell_of h]
      simp only [Nat.add_zero] at h0
      rw [h0]
      simp only [Result.andThen_ok]
      rw [ih (i + 1) (acc.push v) l (by simpa using hl) fun k u hk => by have := hc (k + 1) u (by simpa using hk); rw [← this]; congr 1; omega]
      simp
theorem run_loadCells {w : World} {b o n : Nat} {cc : Array Value} {ct : TypeId} {fz : Nat × Nat} (h : w.heap[b]? = some (.cells cc ct fz)) (l : List Value) (hl : l.length = n)
    (hc : ∀ (k : Nat) (v : Value), l[k]? = some v → cc[o + k]? = some v) : (loadCells ⟨b, o, none⟩ n).run P w = .ok l.toArray w := by
  unfold loadCells
  rw [run_loadCellsFrom h o n 0 #[] l hl fun k v hk => by simpa using hc k v hk]
  simp
theorem rdN_spec {cs : List Value} : ∀ {n o : Nat} {l : List Value}, rdN cs o n = some l → l.length = n ∧ ∀ (k : Nat) (v : Value), l[k]? = some v → cs[o + k]? = some v := by
  intro n
  induction n with
  | zero => intro o l h; cases h; simp
  | succ n ih =>
    intro o l h
    simp only [rdN] at h
    split at h
    · cases h
    · rename_i v hv
      split at h
      · cases h
      · rename_i l' hl
        cases h
        obtain ⟨h1, h2⟩ := ih hl
        refine ⟨by simp [h1], fun k u hk => ?_⟩
        cases k with
        | zero => simp at hk; subst hk; exact hv
        | succ k => simp at hk; have := h2 k u hk; rw [← this]; congr 1; omega
/-- cells that are read in the abstract block are read in the machine's -/
theorem CellsR.read {m : Mp} {flat : Bool} {cs : List Value} {cc : Array Value} {sh o n : Nat} {l : List Value} (h : CellsR m flat cs cc sh) (hr : rdN cs o n = some l) :
    ∃ cl, VRL m l cl ∧ cl.length = n ∧ ∀ (k : Nat) (v : Value), cl[k]? = some v → cc[sh + o + k]? = some v := by
  obtain ⟨h1, h2⟩ := rdN_spec hr
  refine ⟨(List.range n).map fun k => (cc[sh + o + k]?).getD undef, ?_, by simp, ?_⟩
  · refine .of_get (by simp [h1]) fun i v hi => ?_
    have hin : i < n := by rw [← h1]; exact (List.getElem?_eq_some_iff.1 hi).1
    obtain ⟨⟨cv, e1, e2⟩, _⟩ := h _ v (h2 i v hi)
    refine ⟨cv, ?_, e2⟩
    rw [List.getElem?_map, List.getElem?_range hin]
    simp only [Option.map_some]
    rw [show sh + o + i = sh + (o + i) by omega, e1]; rfl
  · intro k v hk
    have hkn : k < n := by
      have := (List.getElem?_eq_some_iff.1 hk).1; simpa using this
    rw [List.getElem?_map, List.getElem?_range hkn] at hk
    simp only [Option.map_some, Option.some.injEq] at hk
    have hl : k < l.length := by omega
    obtain ⟨⟨cv, e1, e2⟩, _⟩ := h _ l[k] (h2 k l[k] (List.getElem?_eq_getElem hl))
    rw [show sh + o + k = sh + (o + k) by omega, e1] at hk ⊢
    simpa using hk
theorem CellsR.flat_read {m : Mp} {cs : List Value} {cc : Array Value} {sh o n : Nat} {l : List Value} (h : CellsR m true cs cc sh) (hr : rdN cs o n = some l) : l.all scal = true := by
  obtain ⟨h1, h2⟩ := rdN_spec hr
  refine List.all_eq_true.2 fun v hv => ?_
  obtain ⟨i, hi⟩ := List.getElem?_of_mem hv
  exact (h _ v (h2 i v hi)).2 rfl

/-! ### stores -/
theorem setCell_at {w : World} {b o : Nat} {v : Value} {cc : Array Value} {ct : TypeId} {fz : Nat × Nat} (h : w.heap[b]? = some (.cells cc ct fz)) :
    (w.setCell ⟨b, o, none⟩ v).heap[b]? = some (.cells (cc.setIfInBounds o v) ct fz) := by
  simp [World.setCell, Array.getElem?_modify, h]
theorem setCell_other {w : World} {b o c : Nat} {v : Value} (h : c ≠ b) : (w.setCell ⟨b, o, none⟩ v).heap[c]? = w.heap[c]? := by
  simp [World.setCell, Array.getElem?_modify, Ne.symm h]
theorem setCell_size {w : World} {a : Addr} {v : Value} : (w.setCell a v).heap.size = w.heap.size := by simp [World.setCell]
theorem run_store1 {w : World} {b o : Nat} {v : Value} {cc : Array Value} {ct : TypeId} {fz : Nat × Nat} (h : w.heap[b]? = some (.cells cc ct fz)) (ho : o < cc.size)
    (hz : ¬ (fz.1 ≤ o ∧ o < fz.2)) (hv : cellV v = true) : (store ⟨b, o, none⟩ v).run P w = .ok () (w.setCell ⟨b, o, none⟩ v) := by
  have hv' : v.oneCell' = true := by cases v <;> first | rfl | simp [cellV] at hv
  rw [run_store P w _ v .plain hv', cell_of h, Array.getElem?_eq_getElem ho]
  simp only [frozen_of h]
  rw [if_neg]
  intro hh
  simp at hh
  exact hz hh
structure StoreR (w w' : World) (b o : Nat) (vs : List Value) (cc : Array Value) (ct : TypeId) (fz : Nat × Nat) : Prop where
  size : w'.heap.size = w.heap.size
  other : ∀ c, c ≠ b → w'.heap[c]? = w.heap[c]?
  os : w'.os = w.os
  out : w'.output = w.output
  tape : w'.tape = w.tape
  here : ∃ cc', w'.heap[b]? = some (.cells cc' ct fz) ∧ cc'.size = cc.size ∧ ∀ i, cc'[i]? = if o ≤ i ∧ i < o + vs.length then vs[i - o]? else cc[i]?
theorem run_storeCells {b o : Nat} : ∀ (vs : List Value) (i : Nat) (w : World) (cc : Array Value) (ct : TypeId) (fz : Nat × Nat), w.heap[b]? = some (.cells cc ct fz) → o + i + vs.length ≤ cc.size →
    (∀ j, o + i ≤ j → j < o + i + vs.length → ¬ (fz.1 ≤ j ∧ j < fz.2)) → (∀ v, v ∈ vs → cellV v = true) →
    ∃ w', (storeCells ⟨b, o, none⟩ vs i).run P w = .ok () w' ∧ StoreR w w' b (o + i) vs cc ct fz := by
  intro vs
  induction vs with
  | nil =>
    intro i w cc ct fz h _ _ _
    refine ⟨w, by simp [storeCells], rfl, fun _ _ => rfl, rfl, rfl, rfl, cc, h, rfl, fun j => ?_⟩
    rw [if_neg]; simp only [List.length_nil]; omega
  | cons v vs ih =>
    intro i w cc ct fz h hs hz hv
    have hv1 := hv v (by simp)
    simp only [List.length_cons] at hs hz
    have hlt : o + i < cc.size := by omega
    have h1 := setCell_at (o := o + i) (v := v) h
    obtain ⟨w', hr, ⟨q1, q2, qo, qu, qt, cc', q3, q4, q5⟩⟩ := ih (i + 1) (w.setCell ⟨b, o + i, none⟩ v) _ ct fz h1 (by simp; omega) (fun j a c => hz j (by omega) (by omega)) (fun u hu => hv u (by simp [hu]))
    refine ⟨w', ?_, q1.trans setCell_size, fun c hc => (q2 c hc).trans (setCell_other hc), qo, qu, qt, cc', q3, by simpa using q4, fun j => ?_⟩
    · simp only [storeCells, Sem.run_bind, add_none, run_store1 h hlt (hz _ (Nat.le_refl _) (by omega)) hv1, Result.andThen_ok]
      rw [show o + (i + 1) = o + i + 1 by omega] at *
      exact hr
    · rw [q5 j]
      by_cases hj : j = o + i
      · subst hj
        rw [if_neg (by omega), if_pos (by simp)]
        simp [hlt]
      · by_cases hj2 : o + (i + 1) ≤ j ∧ j < o + (i + 1) + vs.length
        · rw [if_pos hj2, if_pos (by simp; omega)]
          rw [show j - (o + i) = (j - (o + (i + 1))) + 1 by omega]; simp
        · rw [if_neg hj2, if_neg (by simp; omega)]
          rw [Array.getElem?_setIfInBounds_ne (Ne.symm hj)]
theorem wrN_spec : ∀ {vs cs cs' : List Value} {o : Nat}, wrN cs o vs = some cs' → cs'.length = cs.length ∧ (vs ≠ [] → o + vs.length ≤ cs.length) ∧ (∀ v, v ∈ vs → cellV v = true) ∧
    ∀ i, cs'[i]? = if o ≤ i ∧ i < o + vs.length then vs[i - o]? else cs[i]? := by
  intro vs
  induction vs with
  | nil => intro cs cs' o h; cases h; exact ⟨rfl, fun h => absurd rfl h, fun v hv => by simp at hv, fun i => by rw [if_neg]; simp only [List.length_nil]; omega⟩
  | cons v vs ih =>
    intro cs cs' o h
    simp only [wrN] at h
    rcases cond_eq_some h with ⟨hc, h⟩ | ⟨_, h⟩
    · simp only [Bool.and_eq_true] at hc
      have hlt := blt_iff.1 hc.1
      obtain ⟨h1, h2, h3, h4⟩ := ih h
      simp only [List.length_set] at h1 h2
      refine ⟨h1, fun _ => ?_, fun u hu => ?_, fun i => ?_⟩
      · cases vs with
        | nil => simp; omega
        | cons _ _ => have := h2 (by simp); simp at this ⊢; omega
      · rcases List.mem_cons.1 hu with rfl | hu
        · exact hc.2
        · exact h3 u hu
      · rw [h4 i]
        by_cases hi : i = o
        · subst hi
          rw [if_neg (by omega), if_pos (by simp)]
          simp [hlt]
        · by_cases hj : o + 1 ≤ i ∧ i < o + 1 + vs.length
          · rw [if_pos hj, if_pos (by simp; omega)]
            rw [show i - o = (i - (o + 1)) + 1 by omega]; simp
          · rw [if_neg hj, if_neg (by simp; omega)]
            rw [List.getElem?_set_ne (Ne.symm hi)]
    · cases h

/-! ### heap relations: general steps -/
variable {V : Nat → Prop} {m : Mp} {h : List Blk} {w : World}
theorem HR.none (hr : HR V m h w) {b : Nat} (hb : h.length ≤ b) : m b = none := by
  cases hm : m b with
  | none => rfl
  | some mb => have := (hr.dom b mb hm).1; omega
theorem HR.more (hr : HR V m h w) : HR (fun b => V b ∨ h.length ≤ b) m h w where
  dom := hr.dom
  blk b mb blk hv hm hb := by
    rcases hv with hv | hv
    · exact hr.blk b mb blk hv hm hb
    · rw [hr.none hv] at hm; cases hm
  inj b1 b2 mb1 mb2 x1 x2 hne hv1 hv2 hm1 hm2 hx1 hx2 hl1 hl2 ho := by
    rcases hv1 with hv1 | hv1
    · rcases hv2 with hv2 | hv2
      · exact hr.inj b1 b2 mb1 mb2 x1 x2 hne hv1 hv2 hm1 hm2 hx1 hx2 hl1 hl2 ho
      · rw [hr.none hv2] at hm2; cases hm2
    · rw [hr.none hv1] at hm1; cases hm1
theorem HR.heap {w' : World} (hr : HR V m h w) (hw : w'.heap = w.heap) : HR V m h w' where
  dom b mb hm := by rw [hw]; exact hr.dom b mb hm
  blk b mb blk hv hm hb := (hr.blk b mb blk hv hm hb).world (by rw [hw])
  inj := hr.inj
theorem HR.sub {V' : Nat → Prop} (hr : HR V m h w) (hs : ∀ b, V' b → V b) : HR V' m h w where
  dom := hr.dom
  blk b mb blk hv := hr.blk b mb blk (hs b hv)
  inj b1 b2 mb1 mb2 x1 x2 hne hv1 hv2 := hr.inj b1 b2 mb1 mb2 x1 x2 hne (hs b1 hv1) (hs b2 hv2)
theorem Ext.heap {n : Nat} {wr : List Nat} {m' : Mp} {h' : List Blk} {w' w2 : World} (he : Ext m n h w wr m' h' w') (hw : w2.heap = w'.heap) (hq : Quiet w' w2) : Ext m n h w wr m' h' w2 :=
  ⟨he.old, by rw [hw]; exact he.size, fun cb hc ht => by rw [hw]; exact he.same cb hc ht, he.fresh, he.len, he.keep, he.live, he.qt.trans hq⟩
theorem Ext.heap0 {n : Nat} {wr : List Nat} {m' : Mp} {h' : List Blk} {w' w0 : World} (he : Ext m n h w wr m' h' w') (hw : w0.heap = w.heap) (hq : Quiet w0 w) : Ext m n h w0 wr m' h' w' :=
  ⟨he.old, by rw [hw]; exact he.size, fun cb hc ht => by rw [hw] at hc ⊢; exact he.same cb hc ht, fun b mb hb hm hs => by rw [hw] at hs; exact he.fresh b mb hb hm hs, he.len, he.keep, he.live, hq.trans he.qt⟩
theorem Ext.mono {n : Nat} {wr wr' : List Nat} {m' : Mp} {h' : List Blk} {w' : World} (he : Ext m n h w wr m' h' w') (hw : ∀ b, b ∈ wr → b ∈ wr') : Ext m n h w wr' m' h' w' :=
  ⟨he.old, he.size, fun cb hc ht => he.same cb hc fun b mb hb => ht b mb (hw b hb), fun b mb hb hm hs => let ⟨b0, mb0, i1, i2⟩ := he.fresh b mb hb hm hs; ⟨b0, mb0, hw b0 i1, i2⟩, he.len, fun b hb hn => he.keep b hb fun hh => hn (hw b hh), he.live, he.qt⟩

/-- one more block in both heaps -/
def ups (m : Mp) (n : Nat) (mb : MB) : Mp := fun b => if b = n then some mb else m b
theorem ups_mono (hd : ∀ b mb, m b = some mb → b < h.length) (mb : MB) : ∀ b x, m b = some x → ups m h.length mb b = some x := by
  intro b x hx
  have := hd b x hx
  unfold ups; rw [if_neg (by omega)]; exact hx
theorem HR.alloc (hr : HR V m h w) {w' : World} {o : Obj} {blk : Blk} {mb : MB} (hw : w'.heap = w.heap.push o) (hmb : mb.blk = w.heap.size)
    (hb : ∀ w'' : World, w''.heap[w.heap.size]? = some o → BlkR m blk mb w'') (hq : Quiet w w' := by exact ⟨rfl, rfl, rfl⟩) :
    HR (fun b => V b ∨ h.length ≤ b) (ups m h.length mb) (h ++ [blk]) w' ∧ Ext m h.length h w [] (ups m h.length mb) (h ++ [blk]) w' := by
  have hmono := ups_mono (m := m) (h := h) (fun b mb hm => (hr.dom b mb hm).1) mb
  have hsame : ∀ cb, cb < w.heap.size → w'.heap[cb]? = w.heap[cb]? := fun cb hc => by rw [hw, Array.getElem?_push_lt hc, Array.getElem?_eq_getElem hc]
  have hnew : w'.heap[w.heap.size]? = some o := by rw [hw]; simp
  refine ⟨⟨fun b x hm => ?_, fun b x bl hv hm hx => ?_, fun b1 b2 mb1 mb2 x1 x2 hne hv1 hv2 hm1 hm2 hx1 hx2 hl1 hl2 ho => ?_⟩, ⟨fun b hb' => ?_, ?_, fun cb hc _ => hsame cb hc, fun b x hb' hm hs => ?_, by simp, fun b hb' _ => ?_, fun b hb' hl => ?_, hq⟩⟩
  · unfold ups at hm
    split at hm
    · cases hm; subst_vars; simp [hw, hmb]
    · have := hr.dom b x hm; simp [hw]; omega
  · unfold ups at hm
    split at hm
    · rename_i e
      cases hm
      subst e
      simp at hx
      subst hx
      exact (hb w' hnew).mono hmono
    · rename_i e
      have hd := hr.dom b x hm
      have hx' : h[b]? = some bl := by rw [List.getElem?_append_left hd.1] at hx; exact hx
      rcases hv with hv | hv
      · exact ((hr.blk b x bl hv hm hx').mono hmono).world (hsame _ hd.2)
      · omega
  · unfold ups at hm1 hm2
    split at hm1
    · rename_i e1
      cases hm1
      split at hm2
      · rename_i e2; exact absurd (e1.trans e2.symm) hne
      · have := hr.dom b2 mb2 hm2; omega
    · rename_i e1
      split at hm2
      · cases hm2; have := hr.dom b1 mb1 hm1; omega
      · rename_i e2
        have hd1 := hr.dom b1 mb1 hm1
        have hd2 := hr.dom b2 mb2 hm2
        rw [List.getElem?_append_left hd1.1] at hx1
        rw [List.getElem?_append_left hd2.1] at hx2
        rcases hv1 with hv1 | hv1
        · rcases hv2 with hv2 | hv2
          · exact hr.inj b1 b2 mb1 mb2 x1 x2 hne hv1 hv2 hm1 hm2 hx1 hx2 hl1 hl2 ho
          · omega
        · omega
  · unfold ups; rw [if_neg (by omega)]
  · simp [hw]
  · unfold ups at hm
    split at hm
    · cases hm; omega
    · have := (hr.dom b x hm).1; omega
  · rw [List.getElem?_append_left hb']
  · obtain ⟨x, h1, h2⟩ := hl
    rw [List.getElem?_append_left hb'] at h1
    exact ⟨x, h1, h2⟩
/-- a block is turned in both heaps -/
theorem HR.put (hr : HR V m h w) {w' : World} {b : Nat} {mb : MB} {old blk : Blk} (hv : V b) (hm : m b = some mb) (hold : h[b]? = some old) (hlive : old.live = true) (hown : mb.own = true)
    (hsz : w'.heap.size = w.heap.size) (hoth : ∀ c, c ≠ mb.blk → w'.heap[c]? = w.heap[c]?) (hb : BlkR m blk mb w') (hq : Quiet w w') :
    HR V m (h.set b blk) w' ∧ Ext m h.length h w [b] m (h.set b blk) w' := by
  have hd := hr.dom b mb hm
  refine ⟨⟨fun c x hc => ?_, fun c x bl hvc hc hx => ?_, fun b1 b2 mb1 mb2 x1 x2 hne hv1 hv2 hm1 hm2 hx1 hx2 hl1 hl2 ho => ?_⟩, ⟨fun _ _ => rfl, by rw [hsz]; exact Nat.le_refl _, fun cb hc ht => hoth cb (ht b mb (by simp) hm hown ⟨old, hold, hlive⟩).symm, fun c x hc hcm _ => absurd (hr.dom c x hcm).1 (by omega), by simp, fun c hc hn => ?_, fun c hc hl => ?_, hq⟩⟩
  · rw [hsz]; simpa using hr.dom c x hc
  · by_cases e : c = b
    · subst e
      rw [hm] at hc; cases hc
      rw [List.getElem?_set_self (hd.1)] at hx
      cases hx
      exact hb
    · rw [List.getElem?_set_ne (Ne.symm e)] at hx
      by_cases hl : bl.live = true
      · exact (hr.blk c x bl hvc hc hx).world (hoth _ (hr.inj b c mb x old bl (Ne.symm e) hv hvc hm hc hold hx hlive hl hown).symm)
      · cases bl <;> first | exact absurd rfl hl | trivial
  · have key : ∀ (c : Nat) (y : Blk), (h.set b blk)[c]? = some y → ∃ y0 : Blk, h[c]? = some y0 ∧ (y.live = true → y0.live = true) := by
      intro c y hy
      by_cases e : c = b
      · subst e; exact ⟨old, hold, fun _ => hlive⟩
      · rw [List.getElem?_set_ne (Ne.symm e)] at hy; exact ⟨y, hy, id⟩
    obtain ⟨y1, k1, k2⟩ := key b1 x1 hx1
    obtain ⟨y2, k3, k4⟩ := key b2 x2 hx2
    exact hr.inj b1 b2 mb1 mb2 y1 y2 hne hv1 hv2 hm1 hm2 k1 k3 (k2 hl1) (k4 hl2) ho
  · rw [List.getElem?_set_ne]; intro e; exact hn (by simp [e])
  · by_cases e : c = b
    · subst e; exact ⟨old, hold, hlive⟩
    · obtain ⟨x, h1, h2⟩ := hl
      rw [List.getElem?_set_ne (Ne.symm e)] at h1
      exact ⟨x, h1, h2⟩

end Go.GE
