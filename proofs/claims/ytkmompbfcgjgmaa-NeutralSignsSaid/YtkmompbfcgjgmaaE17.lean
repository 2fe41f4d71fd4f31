/-
  GE, part 17: regions of a free order, whole; the evaluator is sound.
-/
import Derived.Test.YtkmompbfcgjgmaaE16
set_option autoImplicit false
set_option linter.unusedVariables false
set_option linter.unusedSimpArgs false
namespace Go.GE
variable {P : Program}

/-! ### one operation, abstractly -/
def opR (P : Program) (E : Ev) (ops : List Oper) (o : Oper) (st : St) : Option OR :=
  match wantedA ops st.σ o with
  | some true => aop P E st.σ st.h o
  | _ => none
def opW (r : Option OR) : List Nat := match r with | some r => r.wr | none => []
def opRd (r : Option OR) : List Nat := match r with | some r => r.rd | none => []
def opV (r : Option OR) : Value := match r with | some r => r.v | none => undef
theorem range'_mem : ∀ (n a b : Nat), b ∈ range' a n ↔ a ≤ b ∧ b < a + n := by
  intro n
  induction n with
  | zero => intro a b; simp only [range', List.not_mem_nil, false_iff]; omega
  | succ n ih => intro a b; simp only [range', List.mem_cons, ih]; omega
theorem opStep_inv {E : Ev} {base : Nat} {ops : List Oper} {o : Oper} {st st' : St} {fp : Fp} (he : opStep P E base ops o st = some (st', fp)) :
    st'.σ = putO st.σ o.dst (opV (opR P E ops o st)) ∧ st'.wr = addWr base st.wr (opW (opR P E ops o st)) ∧ fp.rd = opRd (opR P E ops o st) ∧
      ∀ b, (b ∈ opW (opR P E ops o st) ∨ (st.h.length ≤ b ∧ b < st'.h.length)) → b ∈ fp.wr := by
  unfold opStep at he
  unfold opR
  split at he
  · rename_i hw
    rw [hw]
    split at he
    · rename_i r hr
      cases he
      simp only [hr]
      refine ⟨rfl, rfl, rfl, fun b hb => ?_⟩
      simp only [List.mem_append, range'_mem]
      rcases hb with hb | hb
      · exact .inl hb
      · exact .inr ⟨hb.1, by omega⟩
    · cases he
  · rename_i hw
    rw [hw]; cases he
    refine ⟨rfl, rfl, rfl, fun b hb => ?_⟩
    rcases hb with hb | hb
    · cases hb
    · have : b < st.h.length := hb.2
      omega
  · cases he
theorem opStep_run {E : Ev} (hE : RunOK P E) (hE2 : RndOK P E) {base : Nat} {ops : Array Oper} {i : Nat} {o : Oper} {st st' : St} {fp : Fp} (hi : ops[i]? = some o) (he : opStep P E base ops.toList o st = some (st', fp))
    {V : Nat → Prop} {m : Mp} {w : World} {a : Act} (hr : HR V m st.h w) (ht : ∀ t u, t ∈ looks ops.toList o → lk st.σ t = some u → ∃ cv, a.tmps[t]? = some cv ∧ VR m u cv) (hrd : ∀ b, b ∈ opRd (opR P E ops.toList o st) → V b) :
    ∃ cv w' m', VR m' (opV (opR P E ops.toList o st)) cv ∧ HR (fun b => V b ∨ st.h.length ≤ b) m' st'.h w' ∧ Ext m st.h.length st.h w (opW (opR P E ops.toList o st)) m' st'.h w' ∧
      ∀ (b : Frame) rest k cs, Steps P (lone (b.atR a (.inRegion ops (i :: rest) :: k)) cs w) (lone (b.atR (a.put o.dst cv) (.inRegion ops rest :: k)) cs w') := by
  have hg : ∀ g want t v, o.guard = some (g, want) → (ops[g]?).bind (·.dst) = some t → lk st.σ t = some v → ∃ cv, a.tmps[t]? = some cv ∧ VR m v cv := by
    intro g want t v h1 h2 h3
    refine ht t v ?_ h3
    simp only [looks, h1, Array.getElem?_toList, h2, Option.toList_some, List.mem_append, List.mem_singleton]
    exact .inr trivial
  have hop : ∀ t v, Operand.tmp t ∈ o.op.operands.toList → lk st.σ t = some v → ∃ cv, a.tmps[t]? = some cv ∧ VR m v cv := by
    intro t v h1 h2
    refine ht t v ?_ h2
    simp only [looks, List.mem_append, List.mem_flatMap]
    exact .inl ⟨_, h1, by simp [opdT]⟩
  unfold opStep at he
  unfold opR at hrd ⊢
  split at he
  · rename_i hw
    split at he
    · rename_i r hr'
      cases he
      simp only [hw, hr', opV, opW, opRd] at hrd ⊢
      have hwant := wantedA_spec (tm := a.tmps) hg hw
      obtain ⟨⟨cv, w', m', q1, q2, q3, q4⟩, hnd⟩ := aop_sound hE hE2 hr (opdR_of hop) hr' hrd
      exact ⟨cv, w', m', q2, q3, q4, fun b rest k cs => op_steps q1 hi hwant hnd b k cs⟩
    · cases he
  · rename_i hw
    cases he
    simp only [hw, opV, opW, opRd]
    have hwant := wantedA_spec (tm := a.tmps) hg hw
    exact ⟨undef, w, m, .undef, hr.more, .refl m st.h w fun b mb hb => (hr.dom b mb hb).1, fun b rest k cs => op_skips hi hwant b k cs⟩
  · cases he
theorem runOpsF_seq {E : Ev} {base : Nat} {ops : List Oper} : ∀ (l : List Oper) (st st' : St) (fps : List Fp), runOpsF P E base ops l st = some (st', fps) →
    ∃ S : Nat → St, S 0 = st ∧ S l.length = st' ∧ ∀ i o, l[i]? = some o → ∃ fp, fps[i]? = some fp ∧ opStep P E base ops o (S i) = some (S (i + 1), fp) := by
  intro l
  induction l with
  | nil => intro st st' fps h; simp only [runOpsF] at h; cases h; exact ⟨fun _ => st, rfl, rfl, fun i o hi => by simp at hi⟩
  | cons x l ih =>
    intro st st' fps h
    simp only [runOpsF] at h
    split at h
    · rename_i st1 fp h1
      split at h
      · rename_i st2 fps2 h2
        cases h
        obtain ⟨S, s1, s2, s3⟩ := ih st1 _ fps2 h2
        refine ⟨fun | 0 => st | k + 1 => S k, rfl, s2, fun i o hi => ?_⟩
        cases i with
        | zero => simp at hi; subst hi; exact ⟨fp, rfl, by simp only [s1]; exact h1⟩
        | succ i => simp at hi; simpa using s3 i o hi
      · cases h
    · cases h

/-! ### what must come before -/
def PM (ms : List Nat) (j : Nat) (o : Oper) : Prop := ∀ b, (ms.getD j 0).testBit b = true → ∃ e, e ∈ o.after.toList ∧ Region.binds .any e = true ∧ (e.on = b ∨ (ms.getD e.on 0).testBit b = true)
theorem mask_bits (acc : List Nat) (b : Nat) : ∀ (es : List Edge) (s : Nat), (es.foldl (fun s e => if Region.binds .any e then s ||| 2 ^ e.on ||| acc.getD e.on 0 else s) s).testBit b = true →
    s.testBit b = true ∨ ∃ e, e ∈ es ∧ Region.binds .any e = true ∧ (e.on = b ∨ (acc.getD e.on 0).testBit b = true) := by
  intro es
  induction es with
  | nil => intro s h; exact .inl h
  | cons e es ih =>
    intro s h
    rw [List.foldl_cons] at h
    rcases ih _ h with h1 | ⟨e', h1, h2⟩
    · split at h1
      · rename_i hb
        simp only [Nat.testBit_or, Bool.or_eq_true, Nat.testBit_two_pow, decide_eq_true_eq] at h1
        rcases h1 with (h1 | h1) | h1
        · exact .inl h1
        · exact .inr ⟨e, by simp, hb, .inl h1⟩
        · exact .inr ⟨e, by simp, hb, .inr h1⟩
      · exact .inl h1
    · exact .inr ⟨e', by simp [h1], h2⟩
theorem masks_spec : ∀ (l : List Oper) (acc : List Nat), (∀ i, i < acc.length → (masks l acc).getD i 0 = acc.getD i 0) ∧ (masks l acc).length = acc.length + l.length ∧ ∀ i o, l[i]? = some o → PM (masks l acc) (acc.length + i) o := by
  intro l
  induction l with
  | nil => intro acc; exact ⟨fun i hi => rfl, rfl, fun i o hi => by simp at hi⟩
  | cons x l ih =>
    intro acc
    simp only [masks]
    generalize hx : x.after.toList.foldl (fun s e => if Region.binds .any e then s ||| 2 ^ e.on ||| acc.getD e.on 0 else s) 0 = y
    obtain ⟨h1, h2, h3⟩ := ih (acc ++ [y])
    refine ⟨fun i hi => ?_, by rw [h2]; simp; omega, fun i o hi => ?_⟩
    · rw [h1 i (by simp; omega)]
      simp [List.getD_eq_getElem?_getD, List.getElem?_append_left hi]
    · cases i with
      | zero =>
        simp at hi; subst hi
        intro b hb
        rw [Nat.add_zero, h1 acc.length (by simp)] at hb
        have : (acc ++ [y]).getD acc.length 0 = y := by simp [List.getD_eq_getElem?_getD]
        rw [this, ← hx] at hb
        rcases mask_bits acc b _ _ hb with h4 | ⟨e, e1, e2, e3⟩
        · simp at h4
        · refine ⟨e, e1, e2, e3.imp id fun h5 => ?_⟩
          by_cases hlt : e.on < acc.length
          · rw [h1 e.on (by simp; omega)]
            simpa [List.getD_eq_getElem?_getD, List.getElem?_append_left hlt] using h5
          · have : acc.getD e.on 0 = 0 := by simp [List.getD_eq_getElem?_getD, List.getElem?_eq_none (show acc.length ≤ e.on by omega)]
            rw [this] at h5; simp at h5
      | succ i =>
        simp at hi
        have := h3 i o hi
        simp only [List.length_append, List.length_singleton] at this
        rwa [show acc.length + (i + 1) = acc.length + 1 + i by omega]
section
variable {ops : Array Oper}
theorem edges_lt (he : edgesOk ops.toList = true) {j : Nat} {o : Oper} (hj : ops[j]? = some o) {e : Edge} (hm : e ∈ o.after.toList) (hb : Region.binds .any e = true) : e.on < j := by
  have h1 : (o, j) ∈ ops.toList.zipIdx := by
    rw [List.mem_iff_getElem?]
    exact ⟨j, by simp [List.getElem?_zipIdx, hj]⟩
  have h2 := List.all_eq_true.1 (List.all_eq_true.1 he _ h1) e hm
  simp only [hb, Bool.not_true, Bool.false_or] at h2
  exact blt_iff.1 h2
theorem pm_of {j : Nat} {o : Oper} (hj : ops[j]? = some o) : PM (masks ops.toList []) j o := by
  have := (masks_spec ops.toList []).2.2 j o (by simpa using hj)
  simpa using this
theorem mask_none {j : Nat} (hj : ops[j]? = none) (b : Nat) : ((masks ops.toList []).getD j 0).testBit b = false := by
  have h1 := (masks_spec ops.toList []).2.1
  have : (masks ops.toList []).length ≤ j := by rw [h1]; simpa using Array.getElem?_eq_none_iff.1 hj
  simp [List.getD_eq_getElem?_getD, List.getElem?_eq_none this]
theorem mask_lt (he : edgesOk ops.toList = true) : ∀ (j b : Nat), ((masks ops.toList []).getD j 0).testBit b = true → b < j := by
  intro j
  induction j using Nat.strongRecOn with
  | ind j ih =>
    intro b hb
    cases hj : ops[j]? with
    | none => rw [mask_none hj] at hb; cases hb
    | some o =>
      obtain ⟨e, e1, e2, e3⟩ := pm_of hj b hb
      have h1 := edges_lt he hj e1 e2
      rcases e3 with rfl | e3
      · exact h1
      · exact Nat.lt_trans (ih _ h1 b e3) h1
def Closed (ops : Array Oper) (D : Nat → Bool) : Prop := ∀ j o, ops[j]? = some o → D j = true → ∀ e, e ∈ o.after.toList → Region.binds .any e = true → D e.on = true
theorem mask_closed (he : edgesOk ops.toList = true) {D : Nat → Bool} (hc : Closed ops D) : ∀ (j b : Nat), D j = true → ((masks ops.toList []).getD j 0).testBit b = true → D b = true := by
  intro j
  induction j using Nat.strongRecOn with
  | ind j ih =>
    intro b hd hb
    cases hj : ops[j]? with
    | none => rw [mask_none hj] at hb; cases hb
    | some o =>
      obtain ⟨e, e1, e2, e3⟩ := pm_of hj b hb
      have h1 := hc j o hj hd e e1 e2
      rcases e3 with rfl | e3
      · exact h1
      · exact ih _ (edges_lt he hj e1 e2) b h1 e3
/-- two that are in order: the one behind finds the one ahead done, and not the other way about -/
theorem ordered (he : edgesOk ops.toList = true) {D : Nat → Bool} (hc : Closed ops D) {i j : Nat} {o : Oper} (hj : ops[j]? = some o) (hno : D j = false) (hrd : ∀ e, e ∈ o.after.toList → Region.binds .any e = true → D e.on = true)
    (hij : i ≠ j) (hu : unord (masks ops.toList []) i j = false) : D i = lt' j i := by
  simp only [unord, Bool.and_eq_false_iff, Bool.not_eq_false'] at hu
  rcases hu with (hu | hu) | hu
  · have h1 := mask_lt he _ _ hu
    obtain ⟨e, e1, e2, e3⟩ := pm_of hj i hu
    have h2 : D i = true := by
      rcases e3 with rfl | e3
      · exact hrd e e1 e2
      · exact mask_closed he hc _ _ (hrd e e1 e2) e3
    rw [h2]; simp [lt', h1]
  · have h1 := mask_lt he _ _ hu
    have h2 : D i = false := by
      rw [← Bool.not_eq_true]; intro h3
      rw [mask_closed he hc _ _ h3 hu] at hno; cases hno
    rw [h2]; simp [lt']; omega
  · exact absurd (beq_iff.1 hu) hij
theorem disj_false {a b : List Nat} {x : Nat} (h1 : x ∈ a) (h2 : x ∈ b) : disj a b = false := by
  rw [← Bool.not_eq_true]; intro h
  have := List.all_eq_true.1 h x h1
  rw [mem_iff.2 h2] at this; cases this
theorem fps_unord {ms : List Nat} {fps : List Fp} (hf : fpsOk ms fps = true) {i j : Nat} {p q : Fp} (hp : fps[i]? = some p) (hq : fps[j]? = some q) {b : Nat} (h1 : b ∈ p.wr) (h2 : b ∈ q.rd ∨ b ∈ q.wr) : unord ms i j = false := by
  have m1 : (p, i) ∈ fps.zipIdx := List.mem_iff_getElem?.2 ⟨i, by simp [List.getElem?_zipIdx, hp]⟩
  have m2 : (q, j) ∈ fps.zipIdx := List.mem_iff_getElem?.2 ⟨j, by simp [List.getElem?_zipIdx, hq]⟩
  have h3 := List.all_eq_true.1 hf _ m1
  simp only [Bool.or_eq_true] at h3
  rcases h3 with h3 | h3
  · rw [List.isEmpty_iff.1 h3] at h1; cases h1
  · have h4 := List.all_eq_true.1 h3 _ m2
    simp only [Bool.or_eq_true, Bool.and_eq_true, Bool.not_eq_true'] at h4
    rcases h4 with h4 | h4
    · exact h4
    · rcases h2 with h2 | h2
      · rw [disj_false h1 h2] at h4; cases h4.1
      · rw [disj_false h1 h2] at h4; cases h4.2
theorem static_unord (hs : staticOk ops.toList = true) {i j t : Nat} {x y : Oper} (hx : ops[i]? = some x) (hy : ops[j]? = some y) (hd : x.dst = some t) (hl : t ∈ looks ops.toList y ∨ y.dst = some t) : unord (masks ops.toList []) i j = false := by
  have m1 : (x, i) ∈ ops.toList.zipIdx := List.mem_iff_getElem?.2 ⟨i, by simp [List.getElem?_zipIdx, hx]⟩
  have m2 : (y, j) ∈ ops.toList.zipIdx := List.mem_iff_getElem?.2 ⟨j, by simp [List.getElem?_zipIdx, hy]⟩
  simp only [staticOk, Bool.and_eq_true] at hs
  have h4 := List.all_eq_true.1 (List.all_eq_true.1 hs.2 _ m1) _ m2
  simp only [Bool.or_eq_true, Bool.not_eq_true'] at h4
  rcases h4 with h4 | h4
  · exact h4
  · exfalso
    simp only [apartA, hd, Bool.and_eq_true, Bool.not_eq_true'] at h4
    rcases hl with hl | hl
    · rw [mem_iff.2 hl] at h4; exact absurd h4.1.1 (by simp)
    · rw [hl] at h4; simp only [Nat.beq_refl] at h4; exact absurd h4.1.2 (by simp)
end
end Go.GE
