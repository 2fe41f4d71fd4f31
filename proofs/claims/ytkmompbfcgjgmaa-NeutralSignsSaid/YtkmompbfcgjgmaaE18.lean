/-
  GE, part 18: every order that a drawn region may take; the evaluator is sound.
-/
import Derived.Test.YtkmompbfcgjgmaaE17
set_option autoImplicit false
set_option linter.unusedVariables false
set_option linter.unusedSimpArgs false
namespace Go.GE
variable {P : Program}
section
variable {ops : Array Oper} {n : Nat} {h : Nat → List Blk} {σ : Nat → Tm} {W R : Nat → List Nat} {v : Nat → Value}
def Dof (listed : Array Bool) : Nat → Bool := fun i => listed.getD i false
theorem Dof_set {listed : Array Bool} {j : Nat} (hj : j < listed.size) : Dof (listed.setIfInBounds j true) = add (Dof listed) j := by
  funext i
  by_cases e : i = j
  · subst e; simp [Dof, add, hj]
  · simp [Dof, add, e, getD_set_ne false (Ne.symm e)]
theorem cnt_set {listed : Array Bool} {j : Nat} (hj : j < listed.size) (hno : listed.getD j false = false) : (listed.setIfInBounds j true).toList.count false + 1 = listed.toList.count false := by
  have h1 : j < listed.toList.length := by simpa using hj
  rw [Array.toList_setIfInBounds, List.count_set h1]
  have h2 : listed.toList[j] = false := by
    have : listed[j] = false := by simpa [hj] using hno
    simpa using this
  rw [h2]
  have h3 : 0 < listed.toList.count false := List.count_pos_iff.2 (h2 ▸ List.getElem_mem h1)
  have h4 : ((false : Bool) == false) = true := rfl
  have h5 : ((true : Bool) == false) = false := rfl
  rw [h4, h5]
  simp only [if_true, Bool.false_eq_true, if_false]
  omega
theorem sched_run (q : Sq P ops n h σ W R v) (hed : edgesOk ops.toList = true) {mi : Mp} {wi : World} {nt : Nat} (hdst : ∀ (j : Nat) (o : Oper) (t : Nat), ops[j]? = some o → o.dst = some t → t < nt)
    (hrdy : ∀ (D : Nat → Bool) (j : Nat) (o : Oper), Closed ops D → ops[j]? = some o → D j = false → (∀ e, e ∈ o.after.toList → Region.binds .any e = true → D e.on = true) → Rdy ops n h W R D j o) :
    ∀ (fuel t : Nat) (listed : Array Bool) (a : Act) (w : World) (m : Mp), listed.size = n → listed.toList.count false = fuel → Closed ops (Dof listed) → DI ops n h σ W mi wi (Dof listed) m a w → a.tmps.size = nt →
      ∃ a' w' m', DI ops n h σ W mi wi (lt' n) m' a' w' ∧ a'.tmps.size = nt ∧ a'.defers = a.defers ∧
        ∀ (b : Frame) k cs, Steps P (lone (b.atR a (.inRegion ops (Region.linearise.go .any ops fuel t listed []) :: k)) cs w) (lone (b.atR a' k) cs w') := by
  intro fuel
  induction fuel with
  | zero =>
    intro t listed a w m hsz hcnt hcl hi hnt
    have hall : Dof listed = lt' n := by
      funext i
      by_cases hlt : i < n
      · have hlt' : i < listed.size := by omega
        have h1 : false ∉ listed.toList := List.count_eq_zero.1 hcnt
        have h2 : listed[i] ∈ listed.toList := by simp
        have h3 : listed[i] = true := by
          cases h4 : listed[i] with
          | true => rfl
          | false => rw [h4] at h2; exact absurd h2 h1
        simp [Dof, lt', hlt, hlt', h3]
      · simp [Dof, lt', hlt, hsz]
    rw [hall] at hi
    exact ⟨a, w, m, hi, hnt, rfl, fun b k cs => by simp only [Region.linearise.go, List.reverse_nil]; exact .one stepR_region_end⟩
  | succ fuel ih =>
    intro t listed a w m hsz hcnt hcl hi hnt
    have hgo : Region.linearise.go .any ops (fuel + 1) t listed [] = (match (Region.ready .any ops listed)[t % (Region.ready .any ops listed).length]? with
      | some i => Region.linearise.go .any ops fuel (t / (Region.ready .any ops listed).length) (listed.setIfInBounds i true) [i]
      | none => [].reverse) := rfl
    cases hk : (Region.ready .any ops listed)[t % (Region.ready .any ops listed).length]? with
    | none =>
      exfalso
      have hnil : Region.ready .any ops listed = [] := by
        cases hr : Region.ready .any ops listed with
        | nil => rfl
        | cons x xs =>
          rw [hr] at hk
          have hlt : t % (x :: xs).length < (x :: xs).length := Nat.mod_lt _ (by simp)
          simp at hk
          simp at hlt
          omega
      -- the least that is not listed is ready
      have hex : ∃ j, j < n ∧ Dof listed j = false := by
        have : false ∈ listed.toList := List.count_pos_iff.1 (by omega)
        obtain ⟨j, hj⟩ := List.getElem?_of_mem this
        have hj' : listed[j]? = some false := by simpa using hj
        have hlt := (Array.getElem?_eq_some_iff.1 hj').1
        exact ⟨j, by omega, by simp [Dof, hj']⟩
      have hmin : ∀ j, j < n → Dof listed j = true := by
        intro j
        induction j using Nat.strongRecOn with
        | ind j ihj =>
          intro hj
          cases hd : Dof listed j with
          | true => rfl
          | false =>
            exfalso
            have hlt : j < ops.size := by rw [q.size]; exact hj
            have ho := Array.getElem?_eq_getElem hlt
            have : j ∈ Region.ready .any ops listed := by
              rw [mem_ready]
              have hj2 : j < listed.size := by omega
              refine ⟨by simpa [Dof, hj2] using hd, _, ho, fun e he hb => ?_⟩
              have h1 := edges_lt hed ho (by simpa using he) hb
              exact ihj e.on h1 (by omega)
            rw [hnil] at this; cases this
      obtain ⟨j, h1, h2⟩ := hex
      rw [hmin j h1] at h2; cases h2
    | some j =>
      rw [hk] at hgo
      simp only at hgo
      rw [linearise_go_acc .any ops fuel _ _ [j], List.reverse_singleton, List.singleton_append] at hgo
      have hmem := List.mem_of_getElem? hk
      rw [mem_ready] at hmem
      obtain ⟨hno, o, ho, hall⟩ := hmem
      have hjl : j < ops.size := (Array.getElem?_eq_some_iff.1 ho).1
      have hjn : j < n := by rw [← q.size]; exact hjl
      have hjs : j < listed.size := by omega
      have hno' : Dof listed j = false := by simpa [Dof, hjs] using hno
      have hall' : ∀ e, e ∈ o.after.toList → Region.binds .any e = true → Dof listed e.on = true := fun e he hb => hall e (by simpa using he) hb
      obtain ⟨cv, w1, m1, d1, d2⟩ := hi.step q hjn ho (hrdy _ j o hcl ho hno' hall') (fun t ht => by rw [hnt]; exact hdst j o t ho ht)
      rw [← Dof_set hjs] at d1
      have hcl1 : Closed ops (Dof (listed.setIfInBounds j true)) := by
        rw [Dof_set hjs]
        intro i oi hoi hdi e he hb
        by_cases hij : i = j
        · subst hij
          rw [ho] at hoi; cases hoi
          simp [add, hall' e he hb]
        · have : Dof listed i = true := by simpa [add, hij] using hdi
          simp [add, hcl i oi hoi this e he hb]
      obtain ⟨a', w', m', r1, r2, r3, r4⟩ := ih (t / (Region.ready .any ops listed).length) (listed.setIfInBounds j true) (a.put o.dst cv) w1 m1 (by simpa using hsz) (by have := cnt_set hjs hno'; omega) hcl1 d1 (put_size.trans hnt)
      refine ⟨a', w', m', r1, r2, r3.trans put_defers, fun b k cs => ?_⟩
      rw [hgo]
      exact (d2 b _ k cs).trans (r4 b k cs)
end

theorem draw_ok {E : Ev} (hE : RunOK P E) (hE2 : RndOK P E) (hm : P.follows .mixedOrders = true) : DrawOK P E := by
  intro cx ops st st' m0 h0 w0 rs m a w t hbase he hs
  unfold region at he
  rcases cond_eq_some he with ⟨hd, he⟩ | ⟨_, he⟩
  case inr => cases he
  simp only at he
  rcases cond_eq_some he with ⟨hst, he⟩ | ⟨_, he⟩
  case inr => cases he
  split at he
  case h_2 => cases he
  rename_i st2 fps hrun
  rcases cond_eq_some he with ⟨hfp, he⟩ | ⟨_, he⟩
  case inr => cases he
  cases he
  rw [hbase] at hrun
  obtain ⟨S, s0, sn, hstep⟩ := runOpsF_seq _ _ _ _ hrun
  have hstep' : ∀ i o, ops[i]? = some o → ∃ fp, fps[i]? = some fp ∧ opStep P E h0.length ops.toList o (S i) = some (S (i + 1), fp) := fun i o ho => hstep i o (by simpa using ho)
  generalize hn : ops.size = n
  have sn' : S n = st' := by rw [← hn]; simpa using sn
  let rr : Nat → Option OR := fun i => (ops[i]?).bind fun o => opR P E ops.toList o (S i)
  have hrr : ∀ i o, ops[i]? = some o → rr i = opR P E ops.toList o (S i) := fun i o ho => by simp [rr, ho]
  have hget : ∀ i, i < n → ∃ o, ops[i]? = some o := fun i hi => ⟨_, Array.getElem?_eq_getElem (by omega)⟩
  have hdst : ∀ (j : Nat) (o : Oper) (t : Nat), ops[j]? = some o → o.dst = some t → t < cx.nt := fun j o t ho ht => dstOk_spec hd (i := j) (by simpa using ho) t ht
  -- in the order of the text
  have htext : ∀ i, i ≤ n → ∃ mt at_ wt, HR (fun _ => True) mt (S i).h wt ∧ TmR mt (S i).σ (at_ : Act).tmps ∧ at_.tmps.size = cx.nt := by
    intro i
    induction i with
    | zero => intro _; rw [s0]; exact ⟨m, a, w, hs.hr, hs.tmr, hs.size⟩
    | succ i ih =>
      intro hi
      obtain ⟨mt, at_, wt, g1, g2, g3⟩ := ih (by omega)
      obtain ⟨o, ho⟩ := hget i (by omega)
      obtain ⟨fp, _, hop⟩ := hstep' i o ho
      obtain ⟨cv, w1, m1, k1, k2, k3, _⟩ := opStep_run hE hE2 ho hop (V := fun _ => True) g1 (fun t u _ hu => g2 t u hu) (fun _ _ => trivial)
      refine ⟨m1, at_.put o.dst cv, w1, hr_true k2 fun _ => .inl trivial, ?_, put_size.trans g3⟩
      rw [(opStep_inv hop).1]
      exact put_tmr (g2.mono fun b mb hb => by rw [k3.old b (g1.dom b mb hb).1]; exact hb) k1 fun t ht => by rw [g3]; exact hdst i o t ho ht
  have hext : ∀ i, i < n → ∃ mt wt m1 w1, Ext mt (S i).h.length (S i).h wt (opW (rr i)) m1 (S (i + 1)).h w1 := by
    intro i hi
    obtain ⟨mt, at_, wt, g1, g2, g3⟩ := htext i (by omega)
    obtain ⟨o, ho⟩ := hget i hi
    obtain ⟨fp, _, hop⟩ := hstep' i o ho
    obtain ⟨cv, w1, m1, k1, k2, k3, _⟩ := opStep_run hE hE2 ho hop (V := fun _ => True) g1 (fun t u _ hu => g2 t u hu) (fun _ _ => trivial)
    rw [hrr i o ho]
    exact ⟨mt, wt, m1, w1, k3⟩
  have q : Sq P ops n (fun i => (S i).h) (fun i => (S i).σ) (fun i => opW (rr i)) (fun i => opRd (rr i)) (fun i => opV (rr i)) := by
    refine ⟨hn, fun i o ho => ?_, fun i hi => ?_, fun i hi b hb hw => ?_, fun i hi b hb hl => ?_, fun i o ho V m w a hr ht hrd => ?_⟩
    · obtain ⟨fp, _, hop⟩ := hstep' i o ho
      rw [hrr i o ho]; exact (opStep_inv hop).1
    · obtain ⟨_, _, _, _, hx⟩ := hext i hi; exact hx.len
    · obtain ⟨_, _, _, _, hx⟩ := hext i hi; exact hx.keep b hb hw
    · obtain ⟨_, _, _, _, hx⟩ := hext i hi; exact hx.live b hb hl
    · obtain ⟨fp, _, hop⟩ := hstep' i o ho
      simp only [hrr i o ho] at hrd ⊢
      exact opStep_run hE hE2 ho hop hr ht hrd
  have hed : edgesOk ops.toList = true := by
    simp only [staticOk, Bool.and_eq_true] at hst; exact hst.1
  have hrdy : ∀ (D : Nat → Bool) (j : Nat) (o : Oper), Closed ops D → ops[j]? = some o → D j = false → (∀ e, e ∈ o.after.toList → Region.binds .any e = true → D e.on = true) →
      Rdy ops n (fun i => (S i).h) (fun i => opW (rr i)) (fun i => opRd (rr i)) D j o := by
    intro D j o hcl ho hno hall
    refine ⟨hno, fun i b hi hij ht hb => ?_, fun i t hi hij ht hl => ?_⟩
    · obtain ⟨oi, hoi⟩ := hget i hi
      obtain ⟨fpi, f1, hopi⟩ := hstep' i oi hoi
      obtain ⟨fpj, f2, hopj⟩ := hstep' j o ho
      refine ordered hed hcl ho hno hall hij (fps_unord hfp f1 f2 (b := b) ?_ ?_)
      · refine (opStep_inv hopi).2.2.2 b ?_
        have := touch_iff.1 ht
        simp only [hrr i oi hoi] at this
        exact this.imp (·.1) id
      · simp only [hrr j o ho] at hb
        rcases hb with hb | hb
        · left; rw [(opStep_inv hopj).2.2.1]; exact hb
        · right
          refine (opStep_inv hopj).2.2.2 b ?_
          have := touch_iff.1 hb
          simp only [hrr j o ho] at this
          exact this.imp (·.1) id
    · obtain ⟨oi, hoi⟩ := hget i hi
      simp only [dstB, hoi, Option.bind_some, beq_iff_eq] at ht
      exact ordered hed hcl ho hno hall hij (static_unord hst hoi ho ht hl)
  let listed := Array.replicate ops.size false
  have hD0 : Dof listed = fun _ => false := by
    funext i
    simp only [Dof, listed, Array.getD_eq_getD_getElem?, Array.getElem?_replicate]
    split <;> rfl
  have hlst0 : ∀ b, lst (fun i => (S i).h) (fun i => opW (rr i)) n (fun _ => false) b = none := by
    intro b
    cases hx : lst (fun i => (S i).h) (fun i => opW (rr i)) n (fun _ => false) b with
    | none => rfl
    | some k => have := (last_some hx).2.1; simp at this
  have hlstT0 : ∀ t, lstT ops n (fun _ => false) t = none := by
    intro b
    cases hx : lstT ops n (fun _ => false) b with
    | none => rfl
    | some k => have := (last_some hx).2.1; simp at this
  have hcut : ∀ b mb, m b = some mb → cut m (S 0).h.length b = some mb := fun b mb hb => by
    rw [s0, cut_of (hs.hr.dom b mb hb).1]; exact hb
  have hi0 : DI ops n (fun i => (S i).h) (fun i => (S i).σ) (fun i => opW (rr i)) m w (Dof listed) m a w := by
    rw [hD0]
    refine ⟨fun b mb hb => ⟨.inl ?_, (hs.hr.dom b mb hb).2⟩, fun b mb blk hb hc => ?_, fun b1 b2 mb1 mb2 x1 x2 hne hm1 hm2 hx1 hx2 hl1 hl2 hown => ?_, fun t u hu => ?_, fun _ _ => rfl, Nat.le_refl _, fun _ _ _ => rfl, fun b mb hb hm _ => ?_, .refl w⟩
    · show b < (S 0).h.length
      rw [s0]; exact (hs.hr.dom b mb hb).1
    · unfold CC at hc; rw [hlst0] at hc
      unfold LL; rw [hlst0]
      refine (hs.hr.blk b mb blk trivial hb (by rw [← s0]; exact hc)).mono hcut
    · unfold CC at hx1 hx2; rw [hlst0] at hx1 hx2
      exact hs.hr.inj b1 b2 mb1 mb2 x1 x2 hne trivial trivial hm1 hm2 (by rw [← s0]; exact hx1) (by rw [← s0]; exact hx2) hl1 hl2 hown
    · unfold CT at hu; rw [hlstT0] at hu
      unfold LT; rw [hlstT0]
      obtain ⟨cv, k1, k2⟩ := hs.tmr t u (by rw [← s0]; exact hu)
      exact ⟨cv, k1, k2.mono hcut⟩
    · have := (hs.hr.dom b mb hm).1
      have hb' : (S 0).h.length ≤ b := hb
      rw [s0] at hb'; omega
  have hcnt : listed.toList.count false = ops.size := by simp [listed]
  obtain ⟨a', w', m', d1, d2, d3, d4⟩ := sched_run q hed hdst hrdy ops.size t listed a w m (by simp [listed, hn]) hcnt (by rw [hD0]; intro j o _ hh; cases hh) hi0 hs.size
  have hschd : Region.schedule (P.follows .mixedOrders) ops t = Region.linearise.go .any ops ops.size t listed [] := by
    simp only [Region.schedule, hm, Bool.true_or, if_true]; rfl
  -- all has been done
  have hle0 : (S 0).h.length ≤ (S n).h.length := q.len_le (Nat.zero_le n) (Nat.le_refl n)
  have hCC : ∀ b, b < (S n).h.length → CC (fun i => (S i).h) (fun i => opW (rr i)) n (lt' n) b = (S n).h[b]? := fun b hb => q.CC_lt (Nat.le_refl n) b hb
  have hdom : ∀ b mb, m' b = some mb → b < (S n).h.length ∧ mb.blk < w'.heap.size := by
    intro b mb hb
    obtain ⟨h1, h2⟩ := d1.dom b mb hb
    refine ⟨?_, h2⟩
    rcases h1 with h1 | ⟨i, i1, i2, i3, i4⟩
    · have h1' : b < (S 0).h.length := h1
      omega
    · have h5 := q.len_le (show i + 1 ≤ n by omega) (Nat.le_refl n)
      exact Nat.lt_of_lt_of_le i4 h5
  have hHR : HR (fun _ => True) m' (S n).h w' := by
    refine ⟨hdom, fun b mb blk _ hb hx => ?_, fun b1 b2 mb1 mb2 x1 x2 hne _ _ hm1 hm2 hx1 hx2 hl1 hl2 hown => ?_⟩
    · exact (d1.blk b mb blk hb ((hCC b (hdom b mb hb).1).trans hx)).mono fun b' mb' h => (cut_some h).2
    · exact d1.inj b1 b2 mb1 mb2 x1 x2 hne hm1 hm2 ((hCC b1 (hdom b1 mb1 hm1).1).trans hx1) ((hCC b2 (hdom b2 mb2 hm2).1).trans hx2) hl1 hl2 hown
  let Wall := (List.range n).flatMap fun i => opW (rr i)
  have hWall : ∀ b, b ∈ Wall ↔ ∃ i, i < n ∧ b ∈ opW (rr i) := by intro b; simp [Wall]
  have hkeep : ∀ j, j ≤ n → ∀ b, b < st.h.length → b ∉ Wall → (S j).h[b]? = st.h[b]? := by
    intro j
    induction j with
    | zero => intro _ b _ _; rw [s0]
    | succ j ih =>
      intro hj b hb hw
      have hlen0 := q.len_le (Nat.zero_le j) (show j ≤ n by omega)
      have : b < (S j).h.length := by
        have h2 : (S 0).h.length ≤ (S j).h.length := hlen0
        rw [s0] at h2; omega
      exact (q.keep j (by omega) b this fun hh => hw ((hWall b).2 ⟨j, by omega, hh⟩)).trans (ih (by omega) b hb hw)
  have hExt : Ext m st.h.length st.h w Wall m' (S n).h w' := by
    refine ⟨fun b hb => d1.old b (by show b < (S 0).h.length; rw [s0]; exact hb), d1.size, fun cb hc ht => ?_, fun b mb hb hm hsz => ?_, by rw [← s0]; exact hle0, fun b hb hw => hkeep n (Nat.le_refl n) b hb hw, fun b hb hl => ?_, d1.qt⟩
    · refine d1.same cb hc fun i b mb hi hb hmb hown hl => ht b mb ((hWall b).2 ⟨i, hi, hb⟩) hmb hown ?_
      have hl' : LiveAt (S 0).h b := hl
      rw [s0] at hl'; exact hl'
    · obtain ⟨i, b0, mb0, k1, k2, k3, k4, k5, k6⟩ := d1.fresh b mb (by show (S 0).h.length ≤ b; rw [s0]; exact hb) hm hsz
      have k5' : LiveAt (S 0).h b0 := k5
      rw [s0] at k5'
      exact ⟨b0, mb0, (hWall b0).2 ⟨i, k1, k2⟩, k3, k4, k5', k6⟩
    · have := q.live_le (Nat.le_refl n) b (by show b < (S 0).h.length; rw [s0]; exact hb) hl
      have h2 : LiveAt (S 0).h b := this
      rw [s0] at h2; exact h2
  have hwr : ∀ j, j ≤ n → ∀ b, b ∈ (S j).wr ↔ b ∈ st.wr ∨ ∃ i, i < j ∧ b ∈ opW (rr i) ∧ b < h0.length := by
    intro j
    induction j with
    | zero => intro _ b; rw [s0]; simp
    | succ j ih =>
      intro hj b
      obtain ⟨o, ho⟩ := hget j (by omega)
      obtain ⟨fp, _, hop⟩ := hstep' j o ho
      rw [(opStep_inv hop).2.1, addWr_mem, ih (by omega) b, ← hrr j o ho]
      constructor
      · rintro ((h1 | ⟨i, i1, i2⟩) | h1)
        · exact .inl h1
        · exact .inr ⟨i, by omega, i2⟩
        · exact .inr ⟨j, by omega, h1⟩
      · rintro (h1 | ⟨i, i1, i2⟩)
        · exact .inl (.inl h1)
        · by_cases e : i = j
          · subst e; exact .inr i2
          · exact .inl (.inr ⟨i, by omega, i2⟩)
  have hnd : ∀ j, j ≤ n → ND (S j).σ := by
    intro j
    induction j with
    | zero => intro _; rw [s0]; exact hs.nd
    | succ j ih =>
      intro hj
      obtain ⟨o, ho⟩ := hget j (by omega)
      obtain ⟨fp, _, hop⟩ := hstep' j o ho
      rw [(opStep_inv hop).1]; exact (ih (by omega)).putO _ _
  refine ⟨a', w', m', ?_, d3, fun b k cs => by rw [hschd]; exact d4 b k cs⟩
  rw [← sn']
  refine ⟨fun t u hu => ?_, hnd n (Nat.le_refl n), d2, hHR, ?_, fun b hb => ?_, hs.ds.ext hExt⟩
  · obtain ⟨cv, k1, k2⟩ := d1.tmp t u (by rw [q.CT_lt t (Nat.le_refl n)]; exact hu)
    exact ⟨cv, k1, k2.mono fun b' mb' h => (cut_some h).2⟩
  · refine hs.ext.trans hExt hs.ext.len (fun x hx => ((hwr n (Nat.le_refl n)) x).2 (.inl hx)) fun x hx hlt => ?_
    obtain ⟨i, i1, i2⟩ := (hWall x).1 hx
    exact ((hwr n (Nat.le_refl n)) x).2 (.inr ⟨i, i1, i2, hlt⟩)
  · rcases ((hwr n (Nat.le_refl n)) b).1 hb with h1 | ⟨i, _, _, h1⟩
    · exact hs.wr b h1
    · exact h1

/-! ### the evaluator is sound -/
theorem ev_ok (hm : P.follows .mixedOrders = true) : ∀ n, EvOK P (ev P n) := by
  intro n
  induction n with
  | zero =>
    have hrun : RunOK P (ev P 0) := fun f args h rr m w cargs he => by cases he
    have hrnd : RndOK P (ev P 0) := fun l args h rr m w cargs mb he => by cases he
    exact ⟨(fun cx c st e st' he => by cases he), (fun cx bd c st e st' he => by cases he), hrun, hrnd, draw_ok hrun hrnd hm⟩
  | succ n ih =>
    have hrun := run_ok ih
    have hrnd := rnd_ok ih
    exact step_ok ih (draw_ok hrun hrnd hm)
end Go.GE
