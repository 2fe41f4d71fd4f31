/-
  GE, part 11: what is no more reached is left out.
-/
import Derived.Test.YtkmompbfcgjgmaaE10
set_option autoImplicit false
set_option linter.unusedVariables false
set_option linter.unusedSimpArgs false
namespace Go.GE
def fren (base : Nat) (δ : List Nat) : Nat → Option Nat := fun b => cond (Nat.blt b base) (some b) ((idx δ b).map (base + ·))
def mfren (base : Nat) (δ : List Nat) (m : Mp) : Mp := fun b => if b < base then m b else (δ[b - base]?).bind m
def wsOf (h : List Blk) (f : Nat → Option Nat) (b : Nat) : Option (Nat × Blk) := match h[b]? with | some blk => (renB f blk).map fun x => (b, x) | none => none
theorem wsOf_some {h : List Blk} {f : Nat → Option Nat} {b : Nat} {p : Nat × Blk} (hp : wsOf h f b = some p) : ∃ y x, h[b]? = some y ∧ renB f y = some x ∧ p = (b, x) := by
  unfold wsOf at hp
  split at hp
  · rename_i y hy
    simp only [Option.map_eq_some_iff] at hp
    obtain ⟨x, h1, h2⟩ := hp
    exact ⟨y, x, hy, h1, h2.symm⟩
  · cases hp
section
variable {m0 m : Mp} {h0 h : List Blk} {w0 w : World} {wr δ : List Nat}
theorem mfren_some {base : Nat} {δ : List Nat} {m : Mp} {b : Nat} {mb : MB} (h : mfren base δ m b = some mb) : ∃ c, m c = some mb := by
  unfold mfren at h
  split at h
  · exact ⟨b, h⟩
  · cases hd : δ[b - base]? with
    | none => rw [hd] at h; cases h
    | some c => rw [hd] at h; exact ⟨c, h⟩
theorem fren_mp (base : Nat) (δ : List Nat) (m : Mp) : ∀ b b' mb, fren base δ b = some b' → m b = some mb → mfren base δ m b' = some mb := by
  intro b b' mb h1 h2
  unfold fren at h1
  rcases cond_eq_some h1 with ⟨q1, q2⟩ | ⟨q1, q2⟩
  · cases q2
    have := blt_iff.1 q1
    simp [mfren, this, h2]
  · simp only [Option.map_eq_some_iff] at q2
    obtain ⟨j, q3, rfl⟩ := q2
    have hj : base + j - base = j := by omega
    unfold mfren
    rw [if_neg (by omega), hj, idx_get q3]
    exact h2
theorem compact (hr0 : HR (fun _ => True) m0 h0 w0) (hr : HR (fun _ => True) m h w) (he : Ext m0 h0.length h0 w0 wr m h w) (hwr : ∀ b, b ∈ wr → b < h0.length) (hnd : δ.Nodup) (hge : ∀ d, d ∈ δ → h0.length ≤ d)
    {news : List Blk} (hnews : optAll (pickB h (fren h0.length δ)) δ = some news) {ws : List (Nat × Blk)} (hws : optAll (wsOf h (fren h0.length δ)) wr = some ws)
    {H : List Blk} (H1 : ∀ b, b < h0.length → b ∉ wr → H[b]? = h[b]?) (H2 : ∀ b x, (b, x) ∈ ws → H[b]? = some x) (H3 : ∀ j : Nat, H[h0.length + j]? = news[j]?) (H4 : H.length = h0.length + news.length) :
    HR (fun _ => True) (mfren h0.length δ m) H w ∧ Ext m0 h0.length h0 w0 wr (mfren h0.length δ m) H w := by
  have hnl : news.length = δ.length := optAll_length hnews
  have hf := fren_mp h0.length δ m
  have get_old : ∀ (b : Nat) (x : Blk), b < h0.length → H[b]? = some x → (∃ y : Blk, b ∈ wr ∧ h[b]? = some y ∧ renB (fren h0.length δ) y = some x) ∨ (b ∉ wr ∧ h[b]? = some x ∧ h0[b]? = some x) := by
    intro b x hb hx
    by_cases hin : b ∈ wr
    · obtain ⟨p, q1, q2⟩ := optAll_mem hws hin
      obtain ⟨y, x', q3, q4, rfl⟩ := wsOf_some q1
      have := H2 b x' q2
      rw [hx] at this; cases this
      exact .inl ⟨y, hin, q3, q4⟩
    · rw [H1 b hb hin] at hx
      exact .inr ⟨hin, hx, by rw [← he.keep b hb hin]; exact hx⟩
  have get_new : ∀ (j : Nat) (x : Blk), H[h0.length + j]? = some x → ∃ (d : Nat) (y : Blk), δ[j]? = some d ∧ h[d]? = some y ∧ renB (fren h0.length δ) y = some x := by
    intro j x hx
    rw [H3] at hx
    obtain ⟨d, q1, q2⟩ := optAll_get' hnews j x hx
    obtain ⟨y, q3, q4⟩ := pickB_some q2
    exact ⟨d, y, q1, q3, q4⟩
  have live_old : ∀ b, b < h0.length → LiveAt H b → LiveAt h b := by
    rintro b hb ⟨x, hx, hl⟩
    rcases get_old b x hb hx with ⟨y, _, q2, q3⟩ | ⟨_, q2, _⟩
    · exact ⟨y, q2, (renB_live q3).symm.trans hl⟩
    · exact ⟨x, q2, hl⟩
  -- in the new heap a block has a twin in the old one
  have twin : ∀ (b : Nat) (mb : MB) (x : Blk), mfren h0.length δ m b = some mb → H[b]? = some x → ∃ (c : Nat) (y : Blk), m c = some mb ∧ h[c]? = some y ∧ y.live = x.live ∧ (b < h0.length → c = b) ∧ (¬ b < h0.length → δ[b - h0.length]? = some c) := by
    intro b mb x hb hx
    unfold mfren at hb
    split at hb
    · rename_i hlt
      rcases get_old b x hlt hx with ⟨y, _, q2, q3⟩ | ⟨_, q2, _⟩
      · exact ⟨b, y, hb, q2, (renB_live q3).symm, fun _ => rfl, fun h => absurd hlt h⟩
      · exact ⟨b, x, hb, q2, rfl, fun _ => rfl, fun h => absurd hlt h⟩
    · rename_i hge'
      simp only [Option.bind_eq_some_iff] at hb
      obtain ⟨d, q1, q2⟩ := hb
      obtain ⟨d', y, q3, q4, q5⟩ := get_new (b - h0.length) x (by rw [show h0.length + (b - h0.length) = b by omega]; exact hx)
      rw [q1] at q3; cases q3
      exact ⟨d, y, q2, q4, (renB_live q5).symm, fun h => absurd h hge', fun _ => q1⟩
  refine ⟨⟨fun b mb hb => ?_, fun b mb blk _ hb hx => ?_, fun b1 b2 mb1 mb2 x1 x2 hne _ _ hb1 hb2 hx1 hx2 hl1 hl2 ho => ?_⟩, ⟨fun b hb => ?_, he.size, he.same, fun b mb hb hm hs => ?_, by omega, fun b hb hn => ?_, fun b hb hl => he.live b hb (live_old b hb hl), he.qt⟩⟩
  · unfold mfren at hb
    split at hb
    · rename_i hlt
      exact ⟨by omega, (hr.dom b mb hb).2⟩
    · simp only [Option.bind_eq_some_iff] at hb
      obtain ⟨d, q1, q2⟩ := hb
      have := (List.getElem?_eq_some_iff.1 q1).1
      exact ⟨by omega, (hr.dom d mb q2).2⟩
  · unfold mfren at hb
    split at hb
    · rename_i hlt
      rcases get_old b blk hlt hx with ⟨y, _, q2, q3⟩ | ⟨q1, q2, q3⟩
      · exact (hr.blk b mb y trivial hb q2).ren hf q3
      · -- as it was when the frame began
        have hm0 : m0 b = some mb := by rw [← he.old b hlt]; exact hb
        have hd := hr0.dom b mb hm0
        by_cases hl : blk.live = true
        · refine ((hr0.blk b mb blk trivial hm0 q3).mono (m2 := mfren h0.length δ m) fun c mc hc => ?_).world (he.same _ hd.2 fun c mc hc hmc ho hlc => ?_)
          · have hcl := (hr0.dom c mc hc).1
            unfold mfren; rw [if_pos hcl, he.old c hcl]; exact hc
          · obtain ⟨x, hx1, hx2⟩ := hlc
            exact hr0.inj c b mc mb x blk (fun e => q1 (e ▸ hc)) trivial trivial hmc hm0 hx1 q3 hx2 hl ho
        · cases blk <;> first | exact absurd rfl hl | trivial
    · simp only [Option.bind_eq_some_iff] at hb
      obtain ⟨d, q1, q2⟩ := hb
      obtain ⟨d', y, q3, q4, q5⟩ := get_new (b - h0.length) blk (by rw [show h0.length + (b - h0.length) = b by omega]; exact hx)
      rw [q1] at q3; cases q3
      exact (hr.blk d mb y trivial q2 q4).ren hf q5
  · obtain ⟨c1, y1, a1, a2, a3, a4, a5⟩ := twin b1 mb1 x1 hb1 hx1
    obtain ⟨c2, y2, d1, d2, d3, d4, d5⟩ := twin b2 mb2 x2 hb2 hx2
    refine hr.inj c1 c2 mb1 mb2 y1 y2 (fun e => ?_) trivial trivial a1 d1 a2 d2 (a3.trans hl1) (d3.trans hl2) ho
    subst e
    by_cases l1 : b1 < h0.length
    · have e1 := a4 l1
      by_cases l2 : b2 < h0.length
      · exact hne (e1.symm.trans (d4 l2))
      · have := hge _ (List.mem_of_getElem? (d5 l2)); omega
    · have e1 := a5 l1
      by_cases l2 : b2 < h0.length
      · have := hge _ (List.mem_of_getElem? e1); have := d4 l2; omega
      · have := nodup_get hnd e1 (d5 l2); omega
  · unfold mfren; rw [if_pos hb]; exact he.old b hb
  · unfold mfren at hm
    rw [if_neg (by omega)] at hm
    simp only [Option.bind_eq_some_iff] at hm
    obtain ⟨d, q1, q2⟩ := hm
    exact he.fresh d mb (hge d (List.mem_of_getElem? q1)) q2 hs
  · rw [H1 b hb hn]; exact he.keep b hb hn
theorem finish_spec (hr0 : HR (fun _ => True) m0 h0 w0) (hr : HR (fun _ => True) m h w) (he : Ext m0 h0.length h0 w0 wr m h w) (hwr : ∀ b, b ∈ wr → b < h0.length) {v cv : Value} (hv : VR m v cv) {rr : RR}
    (hf : finish h0.length v h wr = some rr) : ∃ m', VR m' rr.v cv ∧ HR (fun _ => True) m' (rr.app h0) w ∧ Ext m0 h0.length h0 w0 (rr.ws.map (·.1)) m' (rr.app h0) w ∧ WsOk h0.length rr.ws := by
  unfold finish at hf
  simp only at hf
  generalize hδ : reach h h0.length reachN (ptrV dep v ++ wr.flatMap fun b => match h[b]? with | some blk => ptrB blk | none => []) [] = δ at hf
  obtain ⟨hnd, hge⟩ := reach_spec h h0.length reachN (ptrV dep v ++ wr.flatMap fun b => match h[b]? with | some blk => ptrB blk | none => []) [] List.nodup_nil (by simp)
  rw [hδ] at hnd hge
  split at hf
  · rename_i v' news ws h1 h2 h3
    cases hf
    have hws : optAll (wsOf h (fren h0.length δ)) wr = some ws := h3
    have hmem : ∀ b x, (b, x) ∈ ws → b ∈ wr ∧ ∃ y, h[b]? = some y ∧ renB (fren h0.length δ) y = some x := by
      intro b x hbx
      obtain ⟨b', q1, q2⟩ := optAll_mem' hws hbx
      obtain ⟨y, x', q3, q4, q5⟩ := wsOf_some q2
      cases q5
      exact ⟨q1, y, q3, q4⟩
    have hwsok : WsOk h0.length ws := by
      refine ⟨fun b x hbx => hwr b (hmem b x hbx).1, fun b x y hx hy => ?_⟩
      obtain ⟨_, z, q1, q2⟩ := hmem b x hx
      obtain ⟨_, z', q3, q4⟩ := hmem b y hy
      rw [q1] at q3; cases q3
      rw [q2] at q4; cases q4; rfl
    have hmap : ws.map (·.1) = wr := by
      refine List.ext_getElem? fun i => ?_
      rw [List.getElem?_map]
      cases hi : wr[i]? with
      | none =>
        rw [List.getElem?_eq_none]; · rfl
        rw [optAll_length hws]; exact List.getElem?_eq_none_iff.1 hi
      | some b =>
        obtain ⟨p, q1, q2⟩ := optAll_get hws i b hi
        obtain ⟨y, x, _, _, rfl⟩ := wsOf_some q1
        rw [q2]; rfl
    have hc := compact hr0 hr he hwr hnd hge (news := news) (ws := ws) (H := RR.app h0 ⟨v', news, ws⟩) h2 hws ?_ ?_ ?_ ?_
    · refine ⟨mfren h0.length δ m, hv.ren (fren_mp _ _ _) _ _ h1, hc.1, ?_, hwsok⟩
      show Ext m0 h0.length h0 w0 (ws.map (·.1)) _ _ _
      rw [hmap]; exact hc.2
    · intro b hb hn
      show (ws.foldl _ (h0 ++ news))[b]? = _
      rw [fold_miss ws _ b fun x hx => hn (hmem b x hx).1, List.getElem?_append_left hb]
      exact (he.keep b hb hn).symm
    · intro b x hbx
      exact fold_hit ws _ b x (by have := hwsok.1 b x hbx; simp; omega) (fun y hy => hwsok.2 b y x hy hbx) hbx
    · intro j
      show (ws.foldl _ (h0 ++ news))[h0.length + j]? = _
      rw [fold_miss ws _ _ fun x hx => by have := hwsok.1 _ x hx; omega]
      rw [List.getElem?_append_right (by omega), show h0.length + j - h0.length = j by omega]
    · show (ws.foldl _ (h0 ++ news)).length = _
      rw [fold_len]; simp
  · cases hf
theorem sweep_spec (hr0 : HR (fun _ => True) m0 h0 w0) {st st' : St} (hr : HR (fun _ => True) m st.h w) (he : Ext m0 h0.length h0 w0 st.wr m st.h w) (hwr : ∀ b, b ∈ st.wr → b < h0.length) {tm : Array Value} (ht : TmR m st.σ tm)
    (hf : sweep h0.length st = some st') : ∃ m', TmR m' st'.σ tm ∧ HR (fun _ => True) m' st'.h w ∧ Ext m0 h0.length h0 w0 st'.wr m' st'.h w ∧ st'.wr = st.wr ∧ ∀ b mb, m' b = some mb → ∃ c, m c = some mb := by
  unfold sweep at hf
  simp only at hf
  generalize hδ : reach st.h h0.length reachN (ptrT st.σ ++ st.wr.flatMap fun b => match st.h[b]? with | some blk => ptrB blk | none => []) [] = δ at hf
  obtain ⟨hnd, hge⟩ := reach_spec st.h h0.length reachN (ptrT st.σ ++ st.wr.flatMap fun b => match st.h[b]? with | some blk => ptrB blk | none => []) [] List.nodup_nil (by simp)
  rw [hδ] at hnd hge
  split at hf
  · rename_i σ' news ws h1 h2 h3
    cases hf
    have hws : optAll (wsOf st.h (fren h0.length δ)) st.wr = some ws := h3
    have hmem : ∀ b x, (b, x) ∈ ws → b ∈ st.wr ∧ ∃ y, st.h[b]? = some y ∧ renB (fren h0.length δ) y = some x := by
      intro b x hbx
      obtain ⟨b', q1, q2⟩ := optAll_mem' hws hbx
      obtain ⟨y, x', q3, q4, q5⟩ := wsOf_some q2
      cases q5
      exact ⟨q1, y, q3, q4⟩
    have hfun : ∀ b x y, (b, x) ∈ ws → (b, y) ∈ ws → x = y := by
      intro b x y hx hy
      obtain ⟨_, z, q1, q2⟩ := hmem b x hx
      obtain ⟨_, z', q3, q4⟩ := hmem b y hy
      rw [q1] at q3; cases q3
      rw [q2] at q4; cases q4; rfl
    have htl : (st.h.take h0.length).length = h0.length := by
      rw [List.length_take]; have := he.len; omega
    have hfl : (ws.foldl (fun h p => h.set p.1 p.2) (st.h.take h0.length)).length = h0.length := by rw [fold_len, htl]
    have hc := compact hr0 hr he hwr hnd hge (news := news) (ws := ws) (H := ws.foldl (fun h p => h.set p.1 p.2) (st.h.take h0.length) ++ news) h2 hws ?_ ?_ ?_ ?_
    · exact ⟨mfren h0.length δ m, ht.ren (fren_mp _ _ _) h1, hc.1, hc.2, rfl, fun b mb hb => mfren_some hb⟩
    · intro b hb hn
      rw [List.getElem?_append_left (by omega), fold_miss ws _ b fun x hx => hn (hmem b x hx).1, List.getElem?_take, if_pos hb]
    · intro b x hbx
      have := hwr b (hmem b x hbx).1
      rw [List.getElem?_append_left (by omega)]
      exact fold_hit ws _ b x (by omega) (fun y hy => hfun b y x hy hbx) hbx
    · intro j
      rw [List.getElem?_append_right (by omega), hfl, show h0.length + j - h0.length = j by omega]
    · rw [List.length_append, hfl]
  · cases hf
end
end Go.GE
