/-
  GE, part 16: regions of a free order: one operation, whatever has been done.
-/
import Derived.Test.YtkmompbfcgjgmaaE15
import Derived.Orders
set_option autoImplicit false
set_option linter.unusedVariables false
set_option linter.unusedSimpArgs false
namespace Go.GE
variable {P : Program}

/-! ### the last one -/
def last (p : Nat → Bool) : Nat → Option Nat
  | 0 => none
  | k + 1 => if p k = true then some k else last p k
theorem last_some {p : Nat → Bool} : ∀ {n k : Nat}, last p n = some k → k < n ∧ p k = true ∧ ∀ j, k < j → j < n → p j = false := by
  intro n
  induction n with
  | zero => intro k h; cases h
  | succ n ih =>
    intro k h
    simp only [last] at h
    split at h
    · cases h; exact ⟨by omega, by assumption, fun j h1 h2 => by omega⟩
    · rename_i hp
      obtain ⟨h1, h2, h3⟩ := ih h
      refine ⟨by omega, h2, fun j hj hj2 => ?_⟩
      by_cases e : j = n
      · subst e; simpa using hp
      · exact h3 j hj (by omega)
theorem last_none {p : Nat → Bool} : ∀ {n : Nat}, last p n = none → ∀ j, j < n → p j = false := by
  intro n
  induction n with
  | zero => intro _ j hj; omega
  | succ n ih =>
    intro h j hj
    simp only [last] at h
    split at h
    · cases h
    · rename_i hp
      by_cases e : j = n
      · subst e; simpa using hp
      · exact ih h j (by omega)
theorem last_congr {p q : Nat → Bool} : ∀ {n : Nat}, (∀ k, k < n → p k = q k) → last p n = last q n := by
  intro n
  induction n with
  | zero => intro _; rfl
  | succ n ih =>
    intro h
    simp only [last, h n (by omega), ih fun k hk => h k (by omega)]
theorem last_of {p : Nat → Bool} {k : Nat} (hp : p k = true) : ∀ {n : Nat}, k < n → (∀ j, k < j → j < n → p j = false) → last p n = some k := by
  intro n
  induction n with
  | zero => intro h; omega
  | succ n ih =>
    intro h hj
    simp only [last]
    by_cases e : k = n
    · subst e; simp [hp]
    · have : p n = false := hj n (by omega) (by omega)
      simp only [this, Bool.false_eq_true, if_false]
      exact ih (by omega) fun j h1 h2 => hj j h1 (by omega)

/-! ### maps that are cut off -/
def cut (m : Mp) (n : Nat) : Mp := fun b => if b < n then m b else none
theorem cut_some {m : Mp} {n b : Nat} {mb : MB} (h : cut m n b = some mb) : b < n ∧ m b = some mb := by
  unfold cut at h; split at h
  · exact ⟨by assumption, h⟩
  · cases h
theorem cut_of {m : Mp} {n b : Nat} (h : b < n) : cut m n b = m b := by simp [cut, h]
theorem cut_mono {m m2 : Mp} {n n2 : Nat} (hn : n ≤ n2) (hm : ∀ b mb, b < n → m b = some mb → m2 b = some mb) : ∀ b mb, cut m n b = some mb → cut m2 n2 b = some mb := by
  intro b mb h
  obtain ⟨h1, h2⟩ := cut_some h
  rw [cut_of (by omega)]; exact hm b mb h1 h2

/-! ### the operations of a region, in the order of the text -/
structure Sq (P : Program) (ops : Array Oper) (n : Nat) (h : Nat → List Blk) (σ : Nat → Tm) (W R : Nat → List Nat) (v : Nat → Value) : Prop where
  size : ops.size = n
  tm : ∀ i o, ops[i]? = some o → σ (i + 1) = putO (σ i) o.dst (v i)
  len : ∀ i, i < n → (h i).length ≤ (h (i + 1)).length
  keep : ∀ i, i < n → ∀ b, b < (h i).length → b ∉ W i → (h (i + 1))[b]? = (h i)[b]?
  live : ∀ i, i < n → ∀ b, b < (h i).length → LiveAt (h (i + 1)) b → LiveAt (h i) b
  run : ∀ i o, ops[i]? = some o → ∀ (V : Nat → Prop) (m : Mp) (w : World) (a : Act), HR V m (h i) w →
    (∀ t u, t ∈ looks ops.toList o → lk (σ i) t = some u → ∃ cv, a.tmps[t]? = some cv ∧ VR m u cv) → (∀ b, b ∈ R i → V b) →
    ∃ cv w' m', VR m' (v i) cv ∧ HR (fun b => V b ∨ (h i).length ≤ b) m' (h (i + 1)) w' ∧ Ext m (h i).length (h i) w (W i) m' (h (i + 1)) w' ∧
      ∀ (b : Frame) rest k cs, Steps P (lone (b.atR a (.inRegion ops (i :: rest) :: k)) cs w) (lone (b.atR (a.put o.dst cv) (.inRegion ops rest :: k)) cs w')
section
variable {ops : Array Oper} {n : Nat} {h : Nat → List Blk} {σ : Nat → Tm} {W R : Nat → List Nat} {v : Nat → Value}
def touch (h : Nat → List Blk) (W : Nat → List Nat) (i b : Nat) : Bool := (decide (b ∈ W i) && decide (b < (h i).length)) || (decide ((h i).length ≤ b) && decide (b < (h (i + 1)).length))
theorem touch_iff {i b : Nat} : touch h W i b = true ↔ (b ∈ W i ∧ b < (h i).length) ∨ ((h i).length ≤ b ∧ b < (h (i + 1)).length) := by
  simp [touch]
theorem Sq.len_le (q : Sq P ops n h σ W R v) : ∀ {i j : Nat}, i ≤ j → j ≤ n → (h i).length ≤ (h j).length := by
  intro i j
  induction j with
  | zero => intro hij _; have : i = 0 := by omega
            subst this; exact Nat.le_refl _
  | succ j ih =>
    intro hij hj
    by_cases e : i = j + 1
    · subst e; exact Nat.le_refl _
    · exact Nat.le_trans (ih (by omega) (by omega)) (q.len j (by omega))
theorem Sq.live_le (q : Sq P ops n h σ W R v) : ∀ {j : Nat}, j ≤ n → ∀ b, b < (h 0).length → LiveAt (h j) b → LiveAt (h 0) b := by
  intro j
  induction j with
  | zero => intro _ b _ hl; exact hl
  | succ j ih => intro hj b hb hl; exact ih (by omega) b hb (q.live j (by omega) b (Nat.lt_of_lt_of_le hb (q.len_le (Nat.zero_le j) (by omega))) hl)
def lst (h : Nat → List Blk) (W : Nat → List Nat) (n : Nat) (D : Nat → Bool) (b : Nat) : Option Nat := last (fun i => D i && touch h W i b) n
def CC (h : Nat → List Blk) (W : Nat → List Nat) (n : Nat) (D : Nat → Bool) (b : Nat) : Option Blk :=
  match lst h W n D b with
  | some i => (h (i + 1))[b]?
  | none => (h 0)[b]?
def LL (h : Nat → List Blk) (W : Nat → List Nat) (n : Nat) (D : Nat → Bool) (b : Nat) : Nat :=
  match lst h W n D b with
  | some i => (h (i + 1)).length
  | none => (h 0).length
def lt' (j : Nat) : Nat → Bool := fun i => decide (i < j)
theorem lst_lt {j b : Nat} (hj : j ≤ n) : lst h W n (lt' j) b = last (fun i => touch h W i b) j := by
  have key : ∀ d, last (fun i => lt' j i && touch h W i b) (j + d) = last (fun i => touch h W i b) j := by
    intro d
    induction d with
    | zero => exact last_congr fun k hk => by have : k < j := hk; simp [lt', this]
    | succ d ih => rw [← Nat.add_assoc, last, if_neg (by simp [lt', show ¬ j + d < j by omega]), ih]
  have := key (n - j)
  rw [Nat.add_sub_cancel' hj] at this
  exact this
theorem Sq.CC_lt (q : Sq P ops n h σ W R v) : ∀ {j : Nat}, j ≤ n → ∀ b, b < (h j).length → CC h W n (lt' j) b = (h j)[b]? := by
  intro j
  induction j with
  | zero => intro hj b hb; unfold CC; rw [lst_lt hj]; rfl
  | succ j ih =>
    intro hj b hb
    unfold CC; rw [lst_lt hj, last]
    by_cases ht : touch h W j b = true
    · simp [ht]
    · simp only [ht, Bool.false_eq_true, if_false]
      have h1 : ¬ ((b ∈ W j ∧ b < (h j).length) ∨ ((h j).length ≤ b ∧ b < (h (j + 1)).length)) := fun hh => ht (touch_iff.2 hh)
      have hb' : b < (h j).length := by
        rcases Nat.lt_or_ge b (h j).length with h2 | h2
        · exact h2
        · exact absurd (.inr ⟨h2, hb⟩) h1
      have := ih (by omega) b hb'
      unfold CC at this; rw [lst_lt (by omega)] at this
      rw [this, q.keep j (by omega) b hb' fun hw => h1 (.inl ⟨hw, hb'⟩)]
theorem Sq.LL_lt (q : Sq P ops n h σ W R v) {j : Nat} (hj : j ≤ n) (b : Nat) : LL h W n (lt' j) b ≤ (h j).length := by
  unfold LL; rw [lst_lt hj]
  split
  · rename_i i hi
    have := (last_some hi).1
    exact q.len_le (by omega) hj
  · exact q.len_le (Nat.zero_le j) hj

/-! ### temporaries -/
def dstB (ops : Array Oper) (i t : Nat) : Bool := (ops[i]?).bind (·.dst) == some t
def lstT (ops : Array Oper) (n : Nat) (D : Nat → Bool) (t : Nat) : Option Nat := last (fun i => D i && dstB ops i t) n
def CT (ops : Array Oper) (σ : Nat → Tm) (n : Nat) (D : Nat → Bool) (t : Nat) : Option Value :=
  match lstT ops n D t with
  | some i => lk (σ (i + 1)) t
  | none => lk (σ 0) t
def LT (ops : Array Oper) (h : Nat → List Blk) (n : Nat) (D : Nat → Bool) (t : Nat) : Nat :=
  match lstT ops n D t with
  | some i => (h (i + 1)).length
  | none => (h 0).length
theorem lstT_lt {j t : Nat} (hj : j ≤ n) : lstT ops n (lt' j) t = last (fun i => dstB ops i t) j := by
  have key : ∀ d, last (fun i => lt' j i && dstB ops i t) (j + d) = last (fun i => dstB ops i t) j := by
    intro d
    induction d with
    | zero => exact last_congr fun k hk => by have : k < j := hk; simp [lt', this]
    | succ d ih => rw [← Nat.add_assoc, last, if_neg (by simp [lt', show ¬ j + d < j by omega]), ih]
  have := key (n - j)
  rw [Nat.add_sub_cancel' hj] at this
  exact this
theorem Sq.CT_lt (q : Sq P ops n h σ W R v) (t : Nat) : ∀ {j : Nat}, j ≤ n → CT ops σ n (lt' j) t = lk (σ j) t := by
  intro j
  induction j with
  | zero => intro hj; unfold CT; rw [lstT_lt hj]; rfl
  | succ j ih =>
    intro hj
    have hlt : j < ops.size := by rw [q.size]; omega
    have ho := Array.getElem?_eq_getElem hlt
    unfold CT; rw [lstT_lt hj, last]
    by_cases ht : dstB ops j t = true
    · simp [ht]
    · simp only [ht, Bool.false_eq_true, if_false]
      have := ih (by omega)
      unfold CT at this; rw [lstT_lt (by omega)] at this
      rw [this, q.tm j _ ho]
      simp only [dstB, ho, Option.bind_some, beq_iff_eq] at ht
      cases hd : ops[j].dst with
      | none => rfl
      | some d => rw [hd] at ht; simp only [putO, lk_put]; rw [if_neg fun e => ht (by rw [e])]
theorem Sq.LT_lt (q : Sq P ops n h σ W R v) {j : Nat} (hj : j ≤ n) (t : Nat) : LT ops h n (lt' j) t ≤ (h j).length := by
  unfold LT; rw [lstT_lt hj]
  split
  · rename_i i hi
    have := (last_some hi).1
    exact q.len_le (by omega) hj
  · exact q.len_le (Nat.zero_le j) hj

/-! ### what holds when the operations of D have been done -/
def inI (h : Nat → List Blk) (n : Nat) (D : Nat → Bool) (b : Nat) : Prop := b < (h 0).length ∨ ∃ i, i < n ∧ D i = true ∧ (h i).length ≤ b ∧ b < (h (i + 1)).length
structure DI (ops : Array Oper) (n : Nat) (h : Nat → List Blk) (σ : Nat → Tm) (W : Nat → List Nat) (mi : Mp) (wi : World) (D : Nat → Bool) (m : Mp) (a : Act) (w : World) : Prop where
  dom : ∀ b mb, m b = some mb → inI h n D b ∧ mb.blk < w.heap.size
  blk : ∀ b mb blk, m b = some mb → CC h W n D b = some blk → BlkR (cut m (LL h W n D b)) blk mb w
  inj : ∀ b1 b2 mb1 mb2 x1 x2, b1 ≠ b2 → m b1 = some mb1 → m b2 = some mb2 → CC h W n D b1 = some x1 → CC h W n D b2 = some x2 → x1.live = true → x2.live = true → mb1.own = true → mb1.blk ≠ mb2.blk
  tmp : ∀ t u, CT ops σ n D t = some u → ∃ cv, a.tmps[t]? = some cv ∧ VR (cut m (LT ops h n D t)) u cv
  old : ∀ b, b < (h 0).length → m b = mi b
  size : wi.heap.size ≤ w.heap.size
  same : ∀ cb, cb < wi.heap.size → (∀ i b mb, i < n → b ∈ W i → mi b = some mb → mb.own = true → LiveAt (h 0) b → mb.blk ≠ cb) → w.heap[cb]? = wi.heap[cb]?
  fresh : ∀ b mb, (h 0).length ≤ b → m b = some mb → mb.blk < wi.heap.size → ∃ i b0 mb0, i < n ∧ b0 ∈ W i ∧ mi b0 = some mb0 ∧ mb0.own = true ∧ LiveAt (h 0) b0 ∧ mb0.blk = mb.blk
  qt : Quiet wi w
/-- what j must find: all that its reads, its writes and its temporaries want has been done, and nothing that comes behind it -/
structure Rdy (ops : Array Oper) (n : Nat) (h : Nat → List Blk) (W R : Nat → List Nat) (D : Nat → Bool) (j : Nat) (o : Oper) : Prop where
  no : D j = false
  wr : ∀ i b, i < n → i ≠ j → touch h W i b = true → (b ∈ R j ∨ touch h W j b = true) → D i = lt' j i
  tm : ∀ i t, i < n → i ≠ j → dstB ops i t = true → (t ∈ looks ops.toList o ∨ o.dst = some t) → D i = lt' j i
def add (D : Nat → Bool) (j : Nat) : Nat → Bool := fun i => decide (i = j) || D i
theorem lst_add_ne {D : Nat → Bool} {j b : Nat} (ht : touch h W j b = false) : lst h W n (add D j) b = lst h W n D b :=
  last_congr fun k _ => by
    by_cases e : k = j
    · subst e; simp [ht]
    · simp [add, e]
theorem lstT_add_ne {D : Nat → Bool} {j t : Nat} (ht : dstB ops j t = false) : lstT ops n (add D j) t = lstT ops n D t :=
  last_congr fun k _ => by
    by_cases e : k = j
    · subst e; simp [ht]
    · simp [add, e]
theorem DI.step (q : Sq P ops n h σ W R v) {D : Nat → Bool} {mi m : Mp} {wi w : World} {a : Act} {j : Nat} {o : Oper} (hi : DI ops n h σ W mi wi D m a w) (hj : j < n) (ho : ops[j]? = some o) (hr : Rdy ops n h W R D j o)
    (hdst : ∀ t, o.dst = some t → t < a.tmps.size) :
    ∃ cv w' m', DI ops n h σ W mi wi (add D j) m' (a.put o.dst cv) w' ∧ ∀ (b : Frame) rest k cs, Steps P (lone (b.atR a (.inRegion ops (j :: rest) :: k)) cs w) (lone (b.atR (a.put o.dst cv) (.inRegion ops rest :: k)) cs w') := by
  let V : Nat → Prop := fun b => lst h W n D b = lst h W n (lt' j) b
  have hjn : j ≤ n := by omega
  -- what j reads or writes
  have hV : ∀ b, (b ∈ R j ∨ touch h W j b = true) → lst h W n D b = lst h W n (lt' j) b := by
    intro b hb
    refine last_congr fun i hin => ?_
    by_cases e : i = j
    · subst e; simp [hr.no, lt']
    · by_cases ht : touch h W i b = true
      · rw [hr.wr i b hin e ht hb]
      · simp [ht]
  have hCC : ∀ b, V b → b < (h j).length → CC h W n D b = (h j)[b]? := by
    intro b hb hlt
    rw [← q.CC_lt hjn b hlt]; unfold CC; rw [hb]
  have hLL : ∀ b, V b → LL h W n D b ≤ (h j).length := by
    intro b hb
    have := q.LL_lt hjn b
    unfold LL at this ⊢; rw [hb]; exact this
  have hHR : HR V (cut m (h j).length) (h j) w := by
    refine ⟨fun b mb hm => ?_, fun b mb blk hv hm hb => ?_, fun b1 b2 mb1 mb2 x1 x2 hne hv1 hv2 hm1 hm2 hx1 hx2 hl1 hl2 hown => ?_⟩
    · obtain ⟨h1, h2⟩ := cut_some hm; exact ⟨h1, (hi.dom b mb h2).2⟩
    · obtain ⟨h1, h2⟩ := cut_some hm
      exact (hi.blk b mb blk h2 ((hCC b hv h1).trans hb)).mono (cut_mono (hLL b hv) fun _ _ _ h => h)
    · exact hi.inj b1 b2 mb1 mb2 x1 x2 hne (cut_some hm1).2 (cut_some hm2).2 ((hCC b1 hv1 (cut_some hm1).1).trans hx1) ((hCC b2 hv2 (cut_some hm2).1).trans hx2) hl1 hl2 hown
  have hCT : ∀ t, (t ∈ looks ops.toList o ∨ o.dst = some t) → lstT ops n D t = lstT ops n (lt' j) t := by
    intro t ht
    refine last_congr fun i hin => ?_
    by_cases e : i = j
    · subst e; simp [hr.no, lt']
    · by_cases hd : dstB ops i t = true
      · rw [hr.tm i t hin e hd ht]
      · simp [hd]
  have htm : ∀ t u, t ∈ looks ops.toList o → lk (σ j) t = some u → ∃ cv, a.tmps[t]? = some cv ∧ VR (cut m (h j).length) u cv := by
    intro t u ht hu
    have h1 : CT ops σ n D t = some u := by
      rw [← q.CT_lt t hjn] at hu; unfold CT at hu ⊢; rw [hCT t (.inl ht)]; exact hu
    obtain ⟨cv, k1, k2⟩ := hi.tmp t u h1
    refine ⟨cv, k1, k2.mono (cut_mono ?_ fun _ _ _ h => h)⟩
    have := q.LT_lt hjn t
    unfold LT at this ⊢; rw [hCT t (.inl ht)]; exact this
  obtain ⟨cv, w', m2, r1, r2, r3, r4⟩ := q.run j o ho V (cut m (h j).length) w a hHR htm fun b hb => hV b (.inl hb)
  let m' : Mp := fun b => if (h j).length ≤ b ∧ b < (h (j + 1)).length then m2 b else m b
  have hlen := q.len j hj
  -- ids of the machine's new blocks were free
  have hfree : ∀ b mb, (h j).length ≤ b → b < (h (j + 1)).length → m b = some mb → False := by
    intro b mb h1 h2 hm
    rcases (hi.dom b mb hm).1 with h3 | ⟨i, h3, h4, h5, h6⟩
    · have := q.len_le (Nat.zero_le j) hjn; omega
    · have hij : i ≠ j := fun e => by rw [e, hr.no] at h4; cases h4
      rcases Nat.lt_or_gt_of_ne hij with h7 | h7
      · have := q.len_le (show i + 1 ≤ j by omega) hjn; omega
      · have := q.len_le (show j + 1 ≤ i by omega) (by omega); omega
  have hmono : ∀ b mb, m b = some mb → m' b = some mb := by
    intro b mb hm
    show (if _ then _ else _) = _
    rw [if_neg fun hh => hfree b mb hh.1 hh.2 hm]; exact hm
  have hm2 : ∀ b, m2 b = cut m' (h (j + 1)).length b := by
    intro b
    by_cases h1 : b < (h (j + 1)).length
    · rw [cut_of h1]
      show _ = if _ then _ else _
      by_cases h2 : b < (h j).length
      · rw [if_neg (by omega), r3.old b h2, cut_of h2]
      · rw [if_pos ⟨by omega, h1⟩]
    · unfold cut; rw [if_neg h1]
      cases hx : m2 b with
      | none => rfl
      | some x => exact absurd (r2.dom b x hx).1 h1
  have hm2' : m2 = cut m' (h (j + 1)).length := funext hm2
  have hm'old : ∀ b, ¬ ((h j).length ≤ b ∧ b < (h (j + 1)).length) → m' b = m b := by
    intro b hb
    show (if _ then _ else _) = _
    rw [if_neg hb]
  have hm'new : ∀ b, b < (h (j + 1)).length → m' b = m2 b := by
    intro b hb; rw [hm2 b, cut_of hb]
  have hlstj : ∀ b, touch h W j b = true → lst h W n (add D j) b = some j := by
    intro b ht
    refine last_of (by simp [add, ht]) hj fun i h1 h2 => ?_
    by_cases hti : touch h W i b = true
    · have := hr.wr i b h2 (by omega) hti (.inr ht)
      rw [lt'] at this
      have : D i = false := by rw [this]; simp; omega
      simp [add, this]; omega
    · simp [hti]
  have htV : ∀ b, touch h W j b = true → (V b ∨ (h j).length ≤ b) := fun b ht => .inl (hV b (.inr ht))
  have htlt : ∀ b, touch h W j b = true → b < (h (j + 1)).length := by
    intro b ht
    rcases touch_iff.1 ht with h1 | h1 <;> omega
  have hwsame : ∀ b mb, touch h W j b = false → m b = some mb → ∀ x, CC h W n D b = some x → x.live = true → w'.heap[mb.blk]? = w.heap[mb.blk]? := by
    intro b mb ht hm x hx hxl
    refine r3.same mb.blk (hi.dom b mb hm).2 fun b' mb' hb' hm' hown hl => ?_
    obtain ⟨h1, h2⟩ := cut_some hm'
    have ht' : touch h W j b' = true := touch_iff.2 (.inl ⟨hb', h1⟩)
    obtain ⟨y, hy, hyl⟩ := hl
    have hVb : V b' := hV b' (.inr ht')
    exact hi.inj b' b mb' mb y x (fun e => by subst e; rw [ht] at ht'; cases ht') h2 hm ((hCC b' hVb h1).trans hy) hx hyl hxl hown
  -- a touched block and another one
  have hsep : ∀ b1 b2 mb1 mb2 x1 x2, touch h W j b1 = true → touch h W j b2 = false → m2 b1 = some mb1 → m b2 = some mb2 → (h (j + 1))[b1]? = some x1 → x1.live = true → CC h W n D b2 = some x2 → x2.live = true → (mb1.own = true ∨ mb2.own = true) → mb1.blk ≠ mb2.blk := by
    intro b1 b2 mb1 mb2 x1 x2 ht1 ht2 hm1 hm2 hx1 hl1 hx2 hl2 hown
    have hne : ∀ b, touch h W j b = true → b ≠ b2 := fun b hb e => by subst e; rw [hb] at ht2; cases ht2
    by_cases hb1 : b1 < (h j).length
    · rw [r3.old b1 hb1, cut_of hb1] at hm1
      obtain ⟨y, hy, hyl⟩ := q.live j hj b1 hb1 ⟨x1, hx1, hl1⟩
      have hc := (hCC b1 (hV b1 (.inr ht1)) hb1).trans hy
      rcases hown with hown | hown
      · exact hi.inj b1 b2 mb1 mb2 y x2 (hne b1 ht1) hm1 hm2 hc hx2 hyl hl2 hown
      · exact (hi.inj b2 b1 mb2 mb1 x2 y (hne b1 ht1).symm hm2 hm1 hx2 hc hl2 hyl hown).symm
    · intro e
      obtain ⟨b0, mb0, k1, k2, k3, k4, k5⟩ := r3.fresh b1 mb1 (by omega) hm1 (by rw [e]; exact (hi.dom b2 mb2 hm2).2)
      obtain ⟨k6, k7⟩ := cut_some k2
      have ht0 : touch h W j b0 = true := touch_iff.2 (.inl ⟨k1, k6⟩)
      obtain ⟨y, hy, hyl⟩ := k4
      exact hi.inj b0 b2 mb0 mb2 y x2 (hne b0 ht0) k7 hm2 ((hCC b0 (hV b0 (.inr ht0)) k6).trans hy) hx2 hyl hl2 k3 (k5.trans e)
  have hCCj : ∀ b, touch h W j b = true → CC h W n (add D j) b = (h (j + 1))[b]? := by
    intro b ht; unfold CC; rw [hlstj b ht]
  have hCCo : ∀ b, touch h W j b = false → CC h W n (add D j) b = CC h W n D b := by
    intro b ht; unfold CC; rw [lst_add_ne ht]
  have hm't : ∀ b mb, touch h W j b = true → m' b = some mb → m2 b = some mb := by
    intro b mb ht hm; rw [← hm'new b (htlt b ht)]; exact hm
  have hm'f : ∀ b mb, touch h W j b = false → m' b = some mb → m b = some mb := by
    intro b mb ht hm
    rw [← hm'old b fun hh => by rw [touch_iff.2 (.inr hh)] at ht; cases ht]; exact hm
  refine ⟨cv, w', m', ⟨fun b mb hm => ?_, fun b mb blk hm hc => ?_, fun b1 b2 mb1 mb2 x1 x2 hne hm1 hm2 hx1 hx2 hl1 hl2 hown => ?_, fun t u hu => ?_, fun b hb => ?_, Nat.le_trans hi.size r3.size, fun cb hcb hno => ?_, fun b mb hb hm hs => ?_, hi.qt.trans r3.qt⟩, r4⟩
  · by_cases ht : (h j).length ≤ b ∧ b < (h (j + 1)).length
    · exact ⟨.inr ⟨j, hj, by simp [add], ht⟩, (r2.dom b mb (by rw [← hm'new b ht.2]; exact hm)).2⟩
    · rw [hm'old b ht] at hm
      obtain ⟨h1, h2⟩ := hi.dom b mb hm
      refine ⟨h1.imp id fun ⟨i, i1, i2, i3⟩ => ⟨i, i1, by simp [add, i2], i3⟩, by have := r3.size; omega⟩
  · rcases Bool.eq_false_or_eq_true (touch h W j b) with ht | ht
    · rw [hCCj b ht] at hc
      have := r2.blk b mb blk (htV b ht) (hm't b mb ht hm) hc
      unfold LL; rw [hlstj b ht]
      rw [hm2'] at this; exact this
    · rw [hCCo b ht] at hc
      have hm0 := hm'f b mb ht hm
      have h1 := hi.blk b mb blk hm0 hc
      have h2 : BlkR (cut m' (LL h W n (add D j) b)) blk mb w := by
        refine h1.mono (cut_mono ?_ fun b' mb' _ h => hmono b' mb' h)
        unfold LL; rw [lst_add_ne ht]; exact Nat.le_refl _
      cases hbl : blk.live with
      | false => cases blk <;> first | trivial | cases hbl
      | true => exact h2.world (hwsame b mb ht hm0 blk hc hbl)
  · rcases Bool.eq_false_or_eq_true (touch h W j b1) with ht1 | ht1 <;> rcases Bool.eq_false_or_eq_true (touch h W j b2) with ht2 | ht2
    · rw [hCCj b1 ht1] at hx1; rw [hCCj b2 ht2] at hx2
      exact r2.inj b1 b2 mb1 mb2 x1 x2 hne (htV b1 ht1) (htV b2 ht2) (hm't b1 mb1 ht1 hm1) (hm't b2 mb2 ht2 hm2) hx1 hx2 hl1 hl2 hown
    · rw [hCCj b1 ht1] at hx1; rw [hCCo b2 ht2] at hx2
      exact hsep b1 b2 mb1 mb2 x1 x2 ht1 ht2 (hm't b1 mb1 ht1 hm1) (hm'f b2 mb2 ht2 hm2) hx1 hl1 hx2 hl2 (.inl hown)
    · rw [hCCo b1 ht1] at hx1; rw [hCCj b2 ht2] at hx2
      exact (hsep b2 b1 mb2 mb1 x2 x1 ht2 ht1 (hm't b2 mb2 ht2 hm2) (hm'f b1 mb1 ht1 hm1) hx2 hl2 hx1 hl1 (.inr hown)).symm
    · rw [hCCo b1 ht1] at hx1; rw [hCCo b2 ht2] at hx2
      exact hi.inj b1 b2 mb1 mb2 x1 x2 hne (hm'f b1 mb1 ht1 hm1) (hm'f b2 mb2 ht2 hm2) hx1 hx2 hl1 hl2 hown
  · by_cases hd : o.dst = some t
    · have hdB : dstB ops j t = true := by simp [dstB, ho, hd]
      have hl : lstT ops n (add D j) t = some j := by
        refine last_of (by simp [add, hdB]) hj fun i h1 h2 => ?_
        by_cases hti : dstB ops i t = true
        · have h3 := hr.tm i t h2 (by omega) hti (.inr hd)
          rw [lt'] at h3
          have : D i = false := by rw [h3]; simp; omega
          simp [add, this]; omega
        · simp [hti]
      unfold CT at hu; rw [hl] at hu
      simp only [q.tm j o ho, hd, putO, lk_put, if_true] at hu
      cases hu
      refine ⟨cv, by simp [Act.put, hd, hdst t hd], ?_⟩
      unfold LT; rw [hl]
      rw [hm2'] at r1; exact r1
    · have hdB : dstB ops j t = false := by
        simp only [dstB, ho, Option.bind_some]
        rw [← Bool.not_eq_true, beq_iff_eq]; exact hd
      unfold CT at hu; rw [lstT_add_ne hdB] at hu
      obtain ⟨cu, k1, k2⟩ := hi.tmp t u hu
      refine ⟨cu, ?_, k2.mono (cut_mono ?_ fun b' mb' _ h => hmono b' mb' h)⟩
      · cases hd' : o.dst with
        | none => exact k1
        | some d =>
          simp only [Act.put]
          rw [Array.getElem?_setIfInBounds_ne fun e => hd (by rw [hd', e])]; exact k1
      · unfold LT; rw [lstT_add_ne hdB]; exact Nat.le_refl _
  · rw [hm'old b fun hh => by have := q.len_le (Nat.zero_le j) hjn; omega]
    exact hi.old b hb
  · rw [r3.same cb (by have := hi.size; omega) fun b' mb' hb' hm' hown hl => ?_, hi.same cb hcb hno]
    obtain ⟨h1, h2⟩ := cut_some hm'
    by_cases h3 : b' < (h 0).length
    · exact hno j b' mb' hj hb' (by rw [← hi.old b' h3]; exact h2) hown (q.live_le hjn b' h3 hl)
    · intro e
      obtain ⟨i, b0, mb0, k1, k2, k3, k4, k5, k6⟩ := hi.fresh b' mb' (by omega) h2 (by omega)
      exact hno i b0 mb0 k1 k2 k3 k4 k5 (k6.trans e)
  · by_cases ht : (h j).length ≤ b ∧ b < (h (j + 1)).length
    · rw [hm'new b ht.2] at hm
      obtain ⟨b0, mb0, k1, k2, k3, k4, k5⟩ := r3.fresh b mb ht.1 hm (by have := hi.size; omega)
      obtain ⟨k6, k7⟩ := cut_some k2
      by_cases h3 : b0 < (h 0).length
      · exact ⟨j, b0, mb0, hj, k1, by rw [← hi.old b0 h3]; exact k7, k3, q.live_le hjn b0 h3 k4, k5⟩
      · obtain ⟨i, c0, mc0, e1, e2, e3, e4, e5, e6⟩ := hi.fresh b0 mb0 (by omega) k7 (by omega)
        exact ⟨i, c0, mc0, e1, e2, e3, e4, e5, e6.trans k5⟩
    · rw [hm'old b ht] at hm
      exact hi.fresh b mb hb hm hs
end
end Go.GE
