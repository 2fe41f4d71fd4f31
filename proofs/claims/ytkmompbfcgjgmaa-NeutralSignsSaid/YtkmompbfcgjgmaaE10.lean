/-
  GE, part 10: small heaps for calls: in and out.
-/
import Derived.Test.YtkmompbfcgjgmaaE9
set_option autoImplicit false
set_option linter.unusedVariables false
set_option linter.unusedSimpArgs false
namespace Go.GE

theorem reach_spec (h : List Blk) (base : Nat) : ∀ (n : Nat) (l acc : List Nat), acc.Nodup → (∀ b, b ∈ acc → base ≤ b) → (reach h base n l acc).Nodup ∧ ∀ b, b ∈ reach h base n l acc → base ≤ b := by
  intro n
  induction n with
  | zero => intro l acc h1 h2; exact ⟨h1, h2⟩
  | succ n ih =>
    intro l acc h1 h2
    cases l with
    | nil => exact ⟨h1, h2⟩
    | cons b r =>
      simp only [reach]
      rcases Bool.eq_false_or_eq_true (Nat.blt b base || mem acc b) with hc | hc
      · rw [hc]; simp only [cond_true]; exact ih r acc h1 h2
      · rw [hc]; simp only [cond_false]
        simp only [Bool.or_eq_false_iff] at hc
        refine ih _ _ ?_ ?_
        · rw [List.nodup_append]
          refine ⟨h1, by simp, fun x hx y hy => ?_⟩
          simp at hy; subst hy
          intro e; subst e
          exact mem_false.1 hc.2 hx
        · intro x hx
          rcases List.mem_append.1 hx with hx | hx
          · exact h2 x hx
          · simp at hx; subst hx; exact blt_false.1 hc.1
theorem idx_get {l : List Nat} {n i : Nat} (h : idx l n = some i) : l[i]? = some n := by
  induction l generalizing i with
  | nil => cases h
  | cons a r ih =>
    simp only [idx] at h
    rcases cond_eq_some h with ⟨h1, h2⟩ | ⟨_, h2⟩
    · cases h2; have := beq_iff.1 h1; subst this; rfl
    · simp only [Option.map_eq_some_iff] at h2
      obtain ⟨j, hj, rfl⟩ := h2
      simpa using ih hj
theorem nodup_get {l : List Nat} (hl : l.Nodup) {i j b : Nat} (hi : l[i]? = some b) (hj : l[j]? = some b) : i = j := by
  have h1 := (List.getElem?_eq_some_iff.1 hi)
  have h2 := (List.getElem?_eq_some_iff.1 hj)
  obtain ⟨a1, a2⟩ := h1
  obtain ⟨b1, b2⟩ := h2
  exact (List.getElem_inj hl).1 (a2.trans b2.symm)

/-! ### in -/
def mini (m : Mp) (ρ : List Nat) : Mp := fun i => (ρ[i]?).bind m
section
variable {V : Nat → Prop} {m : Mp} {h : List Blk} {w : World}
def pickB (h : List Blk) (g : Nat → Option Nat) (b : Nat) : Option Blk := match h[b]? with | some blk => renB g blk | none => none
theorem pickB_some {g : Nat → Option Nat} {b : Nat} {x : Blk} (hx : pickB h g b = some x) : ∃ y, h[b]? = some y ∧ renB g y = some x := by
  unfold pickB at hx
  split at hx
  · rename_i y hy; exact ⟨y, hy, hx⟩
  · cases hx
theorem mini_ren (ρ : List Nat) : ∀ b b' mb, idx ρ b = some b' → m b = some mb → mini m ρ b' = some mb := by
  intro b b' mb h1 h2
  simp [mini, idx_get h1, h2]
theorem marshal (hr : HR V m h w) {ρ : List Nat} (hnd : ρ.Nodup) (hV : ∀ b, b ∈ ρ → V b) {hm : List Blk} (he : optAll (pickB h (idx ρ)) ρ = some hm) : HR (fun _ => True) (mini m ρ) hm w where
  dom i mb hi := by
    simp only [mini, Option.bind_eq_some_iff] at hi
    obtain ⟨b, h1, h2⟩ := hi
    have := (List.getElem?_eq_some_iff.1 h1).1
    exact ⟨by rw [optAll_length he]; exact this, (hr.dom b mb h2).2⟩
  blk i mb blk _ hi hb := by
    simp only [mini, Option.bind_eq_some_iff] at hi
    obtain ⟨b, h1, h2⟩ := hi
    obtain ⟨b', h3, h4⟩ := optAll_get' he i blk hb
    rw [h1] at h3; cases h3
    obtain ⟨y, h5, h6⟩ := pickB_some h4
    exact (hr.blk b mb y (hV b (List.mem_of_getElem? h1)) h2 h5).ren (mini_ren ρ) h6
  inj i1 i2 mb1 mb2 x1 x2 hne _ _ hi1 hi2 hx1 hx2 hl1 hl2 ho := by
    simp only [mini, Option.bind_eq_some_iff] at hi1 hi2
    obtain ⟨b1, a1, a2⟩ := hi1
    obtain ⟨b2, c1, c2⟩ := hi2
    obtain ⟨b1', a3, a4⟩ := optAll_get' he i1 x1 hx1
    rw [a1] at a3; cases a3
    obtain ⟨b2', c3, c4⟩ := optAll_get' he i2 x2 hx2
    rw [c1] at c3; cases c3
    obtain ⟨y1, a5, a6⟩ := pickB_some a4
    obtain ⟨y2, c5, c6⟩ := pickB_some c4
    refine hr.inj b1 b2 mb1 mb2 y1 y2 (fun e => ?_) (hV b1 (List.mem_of_getElem? a1)) (hV b2 (List.mem_of_getElem? c1)) a2 c2 a5 c5 ((renB_live a6).symm.trans hl1) ((renB_live c6).symm.trans hl2) ho
    subst e
    exact hne (nodup_get hnd a1 c1)
/-! ### out: what was written and what is new -/
def RR.app (h : List Blk) (rr : RR) : List Blk := rr.ws.foldl (fun h p => h.set p.1 p.2) (h ++ rr.news)
/-- no block is written twice, differently; each lies in the heap -/
def WsOk (n : Nat) (ws : List (Nat × Blk)) : Prop := (∀ i x, (i, x) ∈ ws → i < n) ∧ ∀ i x y, (i, x) ∈ ws → (i, y) ∈ ws → x = y
theorem fold_len (ws : List (Nat × Blk)) : ∀ h : List Blk, (ws.foldl (fun h p => h.set p.1 p.2) h).length = h.length := by
  induction ws with
  | nil => intro h; rfl
  | cons p ws ih => intro h; simp only [List.foldl_cons]; rw [ih]; simp
theorem fold_miss (ws : List (Nat × Blk)) : ∀ (h : List Blk) (b : Nat), (∀ x, (b, x) ∉ ws) → (ws.foldl (fun h p => h.set p.1 p.2) h)[b]? = h[b]? := by
  induction ws with
  | nil => intro h b _; rfl
  | cons p ws ih =>
    intro h b hb
    simp only [List.foldl_cons]
    rw [ih _ b fun x hx => hb x (by simp [hx])]
    rw [List.getElem?_set_ne]
    intro e; subst e; exact hb p.2 (by simp)
theorem fold_hit (ws : List (Nat × Blk)) : ∀ (h : List Blk) (b : Nat) (x : Blk), b < h.length → (∀ y, (b, y) ∈ ws → y = x) → (b, x) ∈ ws → (ws.foldl (fun h p => h.set p.1 p.2) h)[b]? = some x := by
  induction ws with
  | nil => intro h b x _ _ hx; simp at hx
  | cons p ws ih =>
    intro h b x hl hu hx
    simp only [List.foldl_cons]
    by_cases hin : ∃ y, (b, y) ∈ ws
    · obtain ⟨y, hy⟩ := hin
      have := hu y (by simp [hy])
      subst this
      exact ih _ b y (by simpa using hl) (fun z hz => hu z (by simp [hz])) hy
    · rw [fold_miss ws _ b fun y hy => hin ⟨y, hy⟩]
      rcases List.mem_cons.1 hx with rfl | hx
      · simp [hl]
      · exact absurd ⟨x, hx⟩ hin
theorem fold_get {ws : List (Nat × Blk)} {n : Nat} (hw : WsOk n ws) (h0 : List Blk) (hn : n ≤ h0.length) (b : Nat) :
    (∃ x, (b, x) ∈ ws ∧ (ws.foldl (fun h p => h.set p.1 p.2) h0)[b]? = some x) ∨ ((∀ x, (b, x) ∉ ws) ∧ (ws.foldl (fun h p => h.set p.1 p.2) h0)[b]? = h0[b]?) := by
  by_cases hin : ∃ y, (b, y) ∈ ws
  · obtain ⟨y, hy⟩ := hin
    left
    exact ⟨y, hy, fold_hit ws h0 b y (Nat.lt_of_lt_of_le (hw.1 b y hy) hn) (fun z hz => hw.2 b z y hz hy) hy⟩
  · exact .inr ⟨fun y hy => hin ⟨y, hy⟩, fold_miss ws h0 b fun y hy => hin ⟨y, hy⟩⟩

/-! ### back in the caller -/
theorem merge (hr : HR V m h w) {ρ : List Nat} (hnd : ρ.Nodup) (hV : ∀ b, b ∈ ρ → V b) {hm : List Blk} (hmm : optAll (pickB h (idx ρ)) ρ = some hm) {rr : RR} {m1 : Mp} {w1 : World}
    (h1 : HR (fun _ => True) m1 (rr.app hm) w1) (h2 : Ext (mini m ρ) hm.length hm w (rr.ws.map (·.1)) m1 (rr.app hm) w1) (hws : WsOk hm.length rr.ws) {cv : Value} (hcv : VR m1 rr.v cv) {r : OR} (he : mergeB h ρ rr = some r) :
    ∃ m2, VR m2 r.v cv ∧ HR (fun b => V b ∨ h.length ≤ b) m2 r.h w1 ∧ Ext m h.length h w r.wr m2 r.h w1 := by
  have hk : hm.length = ρ.length := optAll_length hmm
  unfold mergeB at he
  simp only at he
  split at he
  · rename_i v news ws hv hn hw
    cases he
    let m2 : Mp := fun b => if b < h.length then m b else m1 (ρ.length + (b - h.length))
    have hback : ∀ b b' mb, (cond (Nat.blt b ρ.length) (ρ[b]?) (some (h.length + (b - ρ.length)))) = some b' → m1 b = some mb → m2 b' = some mb := by
      intro b b' mb hb hm1
      rcases cond_eq_some hb with ⟨q1, q2⟩ | ⟨q1, q2⟩
      · have hlt := blt_iff.1 q1
        rw [h2.old b (by omega)] at hm1
        simp only [mini, q2, Option.bind_some] at hm1
        have := (hr.dom b' mb hm1).1
        show (if b' < h.length then m b' else _) = _
        rw [if_pos this]; exact hm1
      · have hge := blt_false.1 q1
        cases q2
        show (if _ then _ else _) = _
        rw [if_neg (by omega)]
        rw [show ρ.length + (h.length + (b - ρ.length) - h.length) = b by omega]; exact hm1
    have hnl : news.length = rr.news.length := optAll_length hn
    -- ρ's members lie in the caller's heap
    have hρ : ∀ (i b : Nat), ρ[i]? = some b → b < h.length ∧ ∃ (y x : Blk), h[b]? = some y ∧ renB (idx ρ) y = some x ∧ hm[i]? = some x := by
      intro i b hb
      obtain ⟨x, q1, q2⟩ := optAll_get hmm i b hb
      obtain ⟨y, q3, q4⟩ := pickB_some q1
      exact ⟨(List.getElem?_eq_some_iff.1 q3).1, y, x, q3, q4, q2⟩
    have hwm : ∀ (b : Nat) (x : Blk), (b, x) ∈ ws → ∃ (i : Nat) (y : Blk), (i, y) ∈ rr.ws ∧ ρ[i]? = some b ∧ renB (fun b => cond (Nat.blt b ρ.length) (ρ[b]?) (some (h.length + (b - ρ.length)))) y = some x := by
      intro b x hbx
      obtain ⟨⟨i, y⟩, q1, q2⟩ := optAll_mem' hw hbx
      simp only at q2
      split at q2
      · rename_i b0 x0 q3 q4
        cases q2
        exact ⟨i, y, q1, q3, q4⟩
      · cases q2
    have hwm' : ∀ (i : Nat) (y : Blk), (i, y) ∈ rr.ws → ∃ (b : Nat) (x : Blk), (b, x) ∈ ws ∧ ρ[i]? = some b ∧ renB (fun b => cond (Nat.blt b ρ.length) (ρ[b]?) (some (h.length + (b - ρ.length)))) y = some x := by
      intro i y hiy
      obtain ⟨⟨b, x⟩, q1, q2⟩ := optAll_mem hw hiy
      simp only at q1
      split at q1
      · rename_i b0 x0 q3 q4
        cases q1
        exact ⟨b, x, q2, q3, q4⟩
      · cases q1
    have hws2 : WsOk h.length ws := by
      refine ⟨fun b x hbx => ?_, fun b x y hx hy => ?_⟩
      · obtain ⟨i, y, _, q2, _⟩ := hwm b x hbx
        exact (hρ i b q2).1
      · obtain ⟨i, x0, a1, a2, a3⟩ := hwm b x hx
        obtain ⟨j, y0, b1, b2, b3⟩ := hwm b y hy
        have := nodup_get hnd a2 b2
        subst this
        have := hws.2 i x0 y0 a1 b1
        subst this
        rw [a3] at b3; cases b3; rfl
    have happ : rr.app hm = rr.ws.foldl (fun h p => h.set p.1 p.2) (hm ++ rr.news) := rfl
    have hal : (rr.app hm).length = hm.length + rr.news.length := by rw [happ, fold_len]; simp
    generalize hH : ws.foldl (fun h p => h.set p.1 p.2) (h ++ news) = H
    have hHl : H.length = h.length + news.length := by rw [← hH, fold_len]; simp
    -- what lies at b in the new heap
    have get_old : ∀ (b : Nat) (x : Blk), b < h.length → H[b]? = some x → (∃ (i : Nat) (y : Blk), (i, y) ∈ rr.ws ∧ ρ[i]? = some b ∧ (rr.app hm)[i]? = some y ∧ renB (fun b => cond (Nat.blt b ρ.length) (ρ[b]?) (some (h.length + (b - ρ.length)))) y = some x) ∨ (b ∉ ws.map (·.1) ∧ h[b]? = some x) := by
      intro b x hb hx
      rcases fold_get hws2 (h ++ news) (by simp) b with ⟨x', q1, q2⟩ | ⟨q1, q2⟩
      · rw [hH] at q2
        rw [q2] at hx; cases hx
        obtain ⟨i, y, a1, a2, a3⟩ := hwm b x q1
        left
        refine ⟨i, y, a1, a2, ?_, a3⟩
        rcases fold_get hws (hm ++ rr.news) (by simp) i with ⟨y', c1, c2⟩ | ⟨c1, _⟩
        · rw [happ, c2, hws.2 i y' y c1 a1]
        · exact absurd a1 (c1 y)
      · rw [hH] at q2
        rw [q2, List.getElem?_append_left hb] at hx
        right
        refine ⟨fun hh => ?_, hx⟩
        obtain ⟨⟨b', x'⟩, g1, g2⟩ := List.mem_map.1 hh
        simp only at g2; subst g2
        exact q1 x' g1
    have get_new : ∀ (j : Nat) (x : Blk), H[h.length + j]? = some x → ∃ y : Blk, (rr.app hm)[hm.length + j]? = some y ∧ renB (fun b => cond (Nat.blt b ρ.length) (ρ[b]?) (some (h.length + (b - ρ.length)))) y = some x := by
      intro j x hx
      rcases fold_get hws2 (h ++ news) (by simp) (h.length + j) with ⟨x', q1, _⟩ | ⟨_, q2⟩
      · have := hws2.1 _ _ q1; omega
      · rw [hH] at q2
        rw [q2, List.getElem?_append_right (by omega), show h.length + j - h.length = j by omega] at hx
        obtain ⟨y, a1, a2⟩ := optAll_get' hn j x hx
        refine ⟨y, ?_, a2⟩
        rcases fold_get hws (hm ++ rr.news) (by simp) (hm.length + j) with ⟨y', c1, _⟩ | ⟨_, c2⟩
        · have := hws.1 _ _ c1; omega
        · rw [happ, c2, List.getElem?_append_right (by omega), show hm.length + j - hm.length = j by omega]; exact a1
    -- liveness, back
    have live_back : ∀ b, b < h.length → LiveAt H b → LiveAt h b := by
      rintro b hb ⟨x, hx, hl⟩
      rcases get_old b x hb hx with ⟨i, y, a1, a2, a3, a4⟩ | ⟨_, a2⟩
      · have : LiveAt (rr.app hm) i := ⟨y, a3, (renB_live a4).symm.trans hl⟩
        obtain ⟨z, c1, c2⟩ := h2.live i (by rw [hk]; exact (List.getElem?_eq_some_iff.1 a2).1) this
        obtain ⟨_, y', x', d1, d2, d3⟩ := hρ i b a2
        rw [d3] at c1; cases c1
        exact ⟨y', d1, (renB_live d2).symm.trans c2⟩
      · exact ⟨x, a2, hl⟩
    have liveρ : ∀ (i b : Nat), ρ[i]? = some b → LiveAt hm i → LiveAt h b := by
      rintro i b hb ⟨x, hx, hl⟩
      obtain ⟨_, y', x', d1, d2, d3⟩ := hρ i b hb
      rw [d3] at hx; cases hx
      exact ⟨y', d1, (renB_live d2).symm.trans hl⟩
    -- the machine's blocks
    have sameC : ∀ cb, cb < w.heap.size → (∀ b mb, b ∈ ws.map (·.1) → m b = some mb → mb.own = true → LiveAt h b → mb.blk ≠ cb) → w1.heap[cb]? = w.heap[cb]? := by
      intro cb hc ht
      refine h2.same cb hc fun i mb hi hmi ho hl => ?_
      obtain ⟨⟨i', y⟩, g1, g2⟩ := List.mem_map.1 hi
      simp only at g2; subst g2
      obtain ⟨b, x, q1, q2, _⟩ := hwm' i' y g1
      simp only [mini, q2, Option.bind_some] at hmi
      exact ht b mb (List.mem_map.2 ⟨(b, x), q1, rfl⟩) hmi ho (liveρ i' b q2 hl)
    refine ⟨m2, hcv.ren hback _ _ hv, ⟨fun b mb hb => ?_, fun b mb blk hvb hb hx => ?_, fun b1 b2 mb1 mb2 x1 x2 hne hv1 hv2 hb1 hb2 hx1 hx2 hl1 hl2 ho => ?_⟩, ⟨fun b hb => ?_, h2.size, sameC, fun b mb hb hm2 hs => ?_, by rw [hHl]; omega, fun b hb hnw => ?_, live_back, h2.qt⟩⟩
    · -- dom
      rw [hHl]
      change (if b < h.length then m b else m1 (ρ.length + (b - h.length))) = some mb at hb
      split at hb
      · have := hr.dom b mb hb
        have := h2.size
        omega
      · have := h1.dom _ mb hb
        rw [hal] at this
        omega
    · -- blocks
      change (if b < h.length then m b else m1 (ρ.length + (b - h.length))) = some mb at hb
      split at hb
      · rename_i hlt
        have hvb' : V b := by
          rcases hvb with hh | hh
          · exact hh
          · omega
        rcases get_old b blk hlt hx with ⟨i, y, a1, a2, a3, a4⟩ | ⟨a1, a2⟩
        · have hm1 : m1 i = some mb := by
            rw [h2.old i (by rw [hk]; exact (List.getElem?_eq_some_iff.1 a2).1)]
            simp [mini, a2, hb]
          exact (h1.blk i mb y trivial hm1 a3).ren hback a4
        · have hd := hr.dom b mb hb
          by_cases hl : blk.live = true
          · refine ((hr.blk b mb blk hvb' hb a2).mono (m2 := m2) fun c mc hc => ?_).world (sameC _ hd.2 fun c mc hc hmc ho hlc => ?_)
            · show (if c < h.length then m c else _) = _
              rw [if_pos (hr.dom c mc hc).1]; exact hc
            · obtain ⟨x, hx1, hx2⟩ := hlc
              have hcb : c ≠ b := fun e => a1 (e ▸ hc)
              have hVc : V c := by
                obtain ⟨⟨c', y⟩, g1, g2⟩ := List.mem_map.1 hc
                simp only at g2; subst g2
                obtain ⟨i, z, _, q2, _⟩ := hwm c' y g1
                exact hV c' (List.mem_of_getElem? q2)
              exact hr.inj c b mc mb x blk hcb hVc hvb' hmc hb hx1 a2 hx2 hl ho
          · cases blk <;> first | exact absurd rfl hl | trivial
      · rename_i hge
        obtain ⟨y, a1, a2⟩ := get_new (b - h.length) blk (by rw [show h.length + (b - h.length) = b by omega]; exact hx)
        rw [hk] at a1
        exact (h1.blk _ mb y trivial hb a1).ren hback a2
    · -- injective
      change (if b1 < h.length then m b1 else m1 (ρ.length + (b1 - h.length))) = some mb1 at hb1
      change (if b2 < h.length then m b2 else m1 (ρ.length + (b2 - h.length))) = some mb2 at hb2
      -- a block of the caller's (live) and a new one differ
      have mixed : ∀ (b b' : Nat) (mb mb' : MB) (x x' : Blk), b < h.length → ¬ b' < h.length → V b → m b = some mb → m1 (ρ.length + (b' - h.length)) = some mb' → H[b]? = some x → H[b']? = some x' → x.live = true → x'.live = true → (mb.own = true ∨ mb'.own = true) → mb.blk ≠ mb'.blk := by
        intro b b' mb mb' x x' hlt hge hVb hmb hmb' hx hx' hl hl' hown
        obtain ⟨y', c1, c2⟩ := get_new (b' - h.length) x' (by rw [show h.length + (b' - h.length) = b' by omega]; exact hx')
        have hy'l : y'.live = true := (renB_live c2).symm.trans hl'
        by_cases hin : ∃ i : Nat, ρ[i]? = some b
        · obtain ⟨i, hi⟩ := hin
          have hik : i < hm.length := by rw [hk]; exact (List.getElem?_eq_some_iff.1 hi).1
          have hm1 : m1 i = some mb := by
            rw [h2.old i hik]
            simp [mini, hi, hmb]
          have hlive : ∃ y : Blk, (rr.app hm)[i]? = some y ∧ y.live = true := by
            rcases get_old b x hlt hx with ⟨i', y, a1, a2, a3, a4⟩ | ⟨a1, a2⟩
            · have := nodup_get hnd hi a2
              subst this
              exact ⟨y, a3, (renB_live a4).symm.trans hl⟩
            · obtain ⟨_, y0, x0, d1, d2, d3⟩ := hρ i b hi
              rw [a2] at d1; cases d1
              refine ⟨x0, ?_, (renB_live d2).trans hl⟩
              rw [h2.keep i hik fun hh => ?_]
              · exact d3
              · obtain ⟨⟨i', y⟩, g1, g2⟩ := List.mem_map.1 hh
                simp only at g2; subst g2
                obtain ⟨b0, x1, q1, q2, _⟩ := hwm' i' y g1
                rw [hi] at q2; cases q2
                exact a1 (List.mem_map.2 ⟨(b, x1), q1, rfl⟩)
          obtain ⟨y, g1, g2⟩ := hlive
          rw [hk] at c1
          rcases hown with hown | hown
          · exact h1.inj i _ mb mb' y y' (by omega) trivial trivial hm1 hmb' g1 c1 g2 hy'l hown
          · exact (h1.inj _ i mb' mb y' y (by omega) trivial trivial hmb' hm1 c1 g1 hy'l g2 hown).symm
        · intro e
          have hd := (hr.dom b mb hmb).2
          obtain ⟨i, mi, q1, q2, q3, q4, q5⟩ := h2.fresh _ mb' (by omega) hmb' (by rw [← e]; exact hd)
          simp only [mini, Option.bind_eq_some_iff] at q2
          obtain ⟨c, q6, q7⟩ := q2
          obtain ⟨z, z1, z2⟩ := liveρ i c q6 q4
          obtain ⟨x0, u1, u2⟩ := live_back b hlt ⟨x, hx, hl⟩
          exact hr.inj c b mi mb z x0 (fun e => hin ⟨i, e ▸ q6⟩) (hV c (List.mem_of_getElem? q6)) hVb q7 hmb z1 u1 z2 u2 q3 (q5.trans e.symm)
      split at hb1
      · rename_i lt1
        have hV1 : V b1 := by
          rcases hv1 with hh | hh
          · exact hh
          · omega
        split at hb2
        · rename_i lt2
          have hV2 : V b2 := by
            rcases hv2 with hh | hh
            · exact hh
            · omega
          obtain ⟨y1, u1, u2⟩ := live_back b1 lt1 ⟨x1, hx1, hl1⟩
          obtain ⟨y2, u3, u4⟩ := live_back b2 lt2 ⟨x2, hx2, hl2⟩
          exact hr.inj b1 b2 mb1 mb2 y1 y2 hne hV1 hV2 hb1 hb2 u1 u3 u2 u4 ho
        · rename_i ge2
          exact mixed b1 b2 mb1 mb2 x1 x2 lt1 ge2 hV1 hb1 hb2 hx1 hx2 hl1 hl2 (.inl ho)
      · rename_i ge1
        split at hb2
        · rename_i lt2
          have hV2 : V b2 := by
            rcases hv2 with hh | hh
            · exact hh
            · omega
          exact (mixed b2 b1 mb2 mb1 x2 x1 lt2 ge1 hV2 hb2 hb1 hx2 hx1 hl2 hl1 (.inr ho)).symm
        · rename_i ge2
          obtain ⟨y1, c1, c2⟩ := get_new (b1 - h.length) x1 (by rw [show h.length + (b1 - h.length) = b1 by omega]; exact hx1)
          obtain ⟨y2, d1, d2⟩ := get_new (b2 - h.length) x2 (by rw [show h.length + (b2 - h.length) = b2 by omega]; exact hx2)
          rw [hk] at c1 d1
          exact h1.inj _ _ mb1 mb2 y1 y2 (by omega) trivial trivial hb1 hb2 c1 d1 ((renB_live c2).symm.trans hl1) ((renB_live d2).symm.trans hl2) ho
    · -- old
      show (if b < h.length then m b else _) = _
      rw [if_pos hb]
    · -- fresh
      change (if b < h.length then m b else m1 (ρ.length + (b - h.length))) = some mb at hm2
      rw [if_neg (by omega)] at hm2
      obtain ⟨i, mi, q1, q2, q3, q4, q5⟩ := h2.fresh _ mb (by omega) hm2 hs
      simp only [mini, Option.bind_eq_some_iff] at q2
      obtain ⟨c, q6, q7⟩ := q2
      obtain ⟨⟨i', y⟩, g1, g2⟩ := List.mem_map.1 q1
      simp only at g2; subst g2
      obtain ⟨b0, x0, e1, e2, _⟩ := hwm' i' y g1
      rw [q6] at e2; cases e2
      exact ⟨c, mi, List.mem_map.2 ⟨(c, x0), e1, rfl⟩, q7, q3, liveρ i' c q6 q4, q5⟩
    · -- keep
      rcases fold_get hws2 (h ++ news) (by simp) b with ⟨x', q1, _⟩ | ⟨_, q2⟩
      · exact absurd (List.mem_map.2 ⟨(b, x'), q1, rfl⟩) hnw
      · rw [hH] at q2
        rw [q2, List.getElem?_append_left hb]
  · cases he
end
end Go.GE
