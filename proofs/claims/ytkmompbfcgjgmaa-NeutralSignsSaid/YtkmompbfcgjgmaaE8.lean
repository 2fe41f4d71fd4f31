/-
  GE, part 8: append.
-/
import Derived.Test.YtkmompbfcgjgmaaE7
set_option autoImplicit false
set_option linter.unusedVariables false
set_option linter.unusedSimpArgs false
namespace Go.GE
variable {P : Program}
section
variable {a : Act} {o : Oper} {V : Nat → Prop} {m : Mp} {σ : Tm} {h : List Blk} {w : World} {r : OR}

theorem bytes_extract_all (s : ByteArray) : (s.extract 0 s.size).data = s.data := by
  rw [ByteArray.data_extract]
  simp
theorem srcCells_spec (hr : HR V m h w) {size n : Nat} {x cx : Value} {new : List Value} {fl : Bool} {rd : List Nat} (hv : VR m x cx) (hs : srcCells h size x = some (n, new, fl, rd)) (hrd : ∀ b, b ∈ rd → V b) :
    ∃ cnew : List Value, VRL m new cnew ∧ new.length = n * size ∧ (fl = true → new.all scal = true) ∧
      ∀ w' : World, w'.heap = w.heap → (Builtin.lenOf cx).run P w' = .ok n w' ∧ (Builtin.firstCells size n cx).run P w' = .ok cnew.toArray w' := by
  unfold srcCells at hs
  split at hs
  · cases hs
    cases hv
    exact ⟨[], .nil, by simp, fun _ => rfl, fun w' _ => ⟨rfl, rfl⟩⟩
  · rename_i b off n' c
    rcases vr_slice_inv hv with ⟨rfl, rfl, rfl⟩ | ⟨mb, co, cc, hm, g1, g2, g3, g4, rfl⟩
    · cases hs
      exact ⟨[], .nil, by simp, fun _ => rfl, fun w' _ => ⟨rfl, rfl⟩⟩
    split at hs
    · cases hs
      refine ⟨[], .nil, by simp, fun _ => rfl, fun w' _ => ⟨rfl, ?_⟩⟩
      simp [Builtin.firstCells, loadCells, loadCellsFrom]
    · rename_i hn0
      split at hs
      · rename_i cs es flat own hb
        simp only [Option.map_eq_some_iff, Prod.mk.injEq] at hs
        obtain ⟨l, hl, rfl, rfl, rfl, rfl⟩ := hs
        obtain ⟨cx, ct, fz, k1, k2, k3, k4, k5, k6⟩ := cells_blk hr (hrd b (by simp)) hm hb
        obtain ⟨cl, c1, c2, c3⟩ := k5.read hl
        have hn : n' ≠ 0 := fun e => hn0 e
        have hco := g1 (by omega)
        subst hco
        refine ⟨cl, c1, (rdN_spec hl).1, fun hf => ?_, fun w' hw => ⟨rfl, ?_⟩⟩
        · simp only [Bool.or_eq_true] at hf
          rcases hf with hf | hf
          · subst hf; exact k5.flat_read hl
          · exact hf
        · have k1' : w'.heap[mb.blk]? = some (.cells cx ct fz) := by rw [hw]; exact k1
          simp only [Builtin.firstCells, run_loadCells k1' cl c2 c3]
      · cases hs
  · rename_i s
    split at hs
    · rename_i hsz
      subst hsz
      cases hs
      cases hv
      refine ⟨cellsOfBytes s, .scal (cellsOfBytes_all s), by simp [cellsOfBytes], fun _ => cellsOfBytes_all s, fun w' _ => ⟨rfl, ?_⟩⟩
      simp only [Builtin.firstCells, bytes_extract_all, Sem.run_pure]
      congr 1
      apply Array.ext'
      simp [cellsOfBytes]
    · cases hs
  · cases hs
theorem nextcap_le {need cc : Nat} (hn : cc < need) : Builtin.nextslicecap need cc ≤ 2 * need := by
  unfold Builtin.nextslicecap
  split
  · omega
  · split
    · omega
    · rename_i h1 h2
      have g : ∀ (k c : Nat), c < need ∨ c ≤ 2 * need → 256 ≤ need → Builtin.growBy need k c ≤ 2 * need := by
        intro k
        induction k with
        | zero => intro c hc _; unfold Builtin.growBy; omega
        | succ k ih =>
          intro c hc h256
          unfold Builtin.growBy
          split
          · omega
          · exact ih _ (by omega) h256
      exact g 4 cc (.inl hn) (by omega)

/-- a block is given up -/
theorem HR.kill (hr : HR V m h w) {b : Nat} {mb : MB} {old : Blk} (hv : V b) (hm : m b = some mb) (hold : h[b]? = some old) (hlive : old.live = true) (hown : mb.own = true) :
    HR V m (h.set b .dead) w ∧ Ext m h.length h w [b] m (h.set b .dead) w :=
  hr.put hv hm hold hlive hown rfl (fun _ _ => rfl) trivial (.refl w)
/-- a block is told as given up: nothing is done in the machine -/
theorem HR.deadAt (hr : HR V m h w) {b : Nat} : HR V m (h.set b .dead) w := by
  refine ⟨fun c mb hc => by rw [List.length_set]; exact hr.dom c mb hc, fun c mb blk hv hc hx => ?_, fun b1 b2 mb1 mb2 x1 x2 hne v1 v2 h1 h2 y1 y2 l1 l2 ho => ?_⟩
  · have hlt := (hr.dom c mb hc).1
    by_cases e : c = b
    · subst e; rw [List.getElem?_set_self hlt] at hx; cases hx; trivial
    · rw [List.getElem?_set_ne (Ne.symm e)] at hx; exact hr.blk c mb blk hv hc hx
  · have g : ∀ c mb x, m c = some mb → (h.set b .dead)[c]? = some x → x.live = true → h[c]? = some x := by
      intro c mb x hc hx hl
      have hlt := (hr.dom c mb hc).1
      by_cases e : c = b
      · subst e; rw [List.getElem?_set_self hlt] at hx; cases hx; cases hl
      · rw [List.getElem?_set_ne (Ne.symm e)] at hx; exact hx
    exact hr.inj b1 b2 mb1 mb2 x1 x2 hne v1 v2 h1 h2 (g _ _ _ h1 y1 l1) (g _ _ _ h2 y2 l2) l1 l2 ho
theorem Ext.deadAt (hr : HR V m h w) {b : Nat} : Ext m h.length h w [b] m (h.set b .dead) w where
  old _ _ := rfl
  size := Nat.le_refl _
  same _ _ _ := rfl
  fresh c mb hc hm := by have := (hr.dom c mb hm).1; omega
  len := by simp
  keep c hc hn := by rw [List.getElem?_set_ne (fun e => hn (by simp [e]))]
  live c hc hl := by
    obtain ⟨x, hx, hl⟩ := hl
    by_cases e : c = b
    · subst e; rw [List.getElem?_set_self hc] at hx; cases hx; cases hl
    · rw [List.getElem?_set_ne (Ne.symm e)] at hx; exact ⟨x, hx, hl⟩
  qt := .refl _
/-- a block is given up, and another one lies at its place in the machine -/
theorem HR.move (hr : HR V m h w) {w' : World} {b : Nat} {mb mb' : MB} {old blk : Blk} (hv : V b) (hm : m b = some mb) (hold : h[b]? = some old) (hlive : old.live = true) (hown : mb.own = true)
    (hmb' : mb'.blk = mb.blk) (hsz : w'.heap.size = w.heap.size) (hoth : ∀ c, c ≠ mb.blk → w'.heap[c]? = w.heap[c]?) (hb : BlkR m blk mb' w') (hq : Quiet w w') :
    HR (fun b => V b ∨ h.length ≤ b) (ups m h.length mb') (h.set b .dead ++ [blk]) w' ∧ Ext m h.length h w [b] (ups m h.length mb') (h.set b .dead ++ [blk]) w' := by
  have hmono := ups_mono (m := m) (h := h) (fun b mb hm => (hr.dom b mb hm).1) mb'
  have hd := hr.dom b mb hm
  have hget : ∀ (c : Nat) (y : Blk), c < h.length → (h.set b .dead ++ [blk])[c]? = some y → (c = b ∧ y = .dead) ∨ (c ≠ b ∧ h[c]? = some y) := by
    intro c y hc hy
    rw [List.getElem?_append_left (by simpa using hc)] at hy
    by_cases e : c = b
    · subst e; rw [List.getElem?_set_self hc] at hy; cases hy; exact .inl ⟨rfl, rfl⟩
    · rw [List.getElem?_set_ne (Ne.symm e)] at hy; exact .inr ⟨e, hy⟩
  have hnew : ∀ y, (h.set b Blk.dead ++ [blk])[h.length]? = some y → y = blk := by
    intro y hy
    rw [List.getElem?_append_right (by simp)] at hy
    simp at hy; exact hy.symm
  refine ⟨⟨fun c x hc => ?_, fun c x bl hvc hc hx => ?_, fun b1 b2 mb1 mb2 x1 x2 hne hv1 hv2 hm1 hm2 hx1 hx2 hl1 hl2 ho => ?_⟩, ⟨fun c hc => ?_, by rw [hsz]; exact Nat.le_refl _, fun cb hc ht => hoth cb (ht b mb (by simp) hm hown ⟨old, hold, hlive⟩).symm, fun c x hc hcm hs => ?_, by simp, fun c hc hn => ?_, fun c hc hl => ?_, hq⟩⟩
  · unfold ups at hc
    split at hc
    · rename_i e; cases hc; subst e; rw [hsz, hmb']; simp; exact hd.2
    · have := hr.dom c x hc; rw [hsz]; simp; omega
  · unfold ups at hc
    split at hc
    · rename_i e; cases hc; subst e
      rw [hnew _ hx]
      exact hb.mono hmono
    · have hdc := hr.dom c x hc
      rcases hget c bl hdc.1 hx with ⟨rfl, rfl⟩ | ⟨e, hx'⟩
      · trivial
      · have hvc' : V c := by
          rcases hvc with h | h
          · exact h
          · omega
        by_cases hl : bl.live = true
        · exact ((hr.blk c x bl hvc' hc hx').mono hmono).world (hoth _ (hr.inj b c mb x old bl (Ne.symm e) hv hvc' hm hc hold hx' hlive hl hown).symm)
        · cases bl <;> first | exact absurd rfl hl | trivial
  · unfold ups at hm1 hm2
    split at hm1
    · rename_i e1
      cases hm1
      subst e1
      split at hm2
      · rename_i e2; exact absurd e2.symm hne
      · have hd2 := hr.dom b2 mb2 hm2
        rcases hget b2 x2 hd2.1 hx2 with ⟨rfl, rfl⟩ | ⟨e, hx'⟩
        · cases hl2
        · rw [hmb']
          refine hr.inj b b2 mb mb2 old x2 (Ne.symm e) hv ?_ hm hm2 hold hx' hlive hl2 hown
          rcases hv2 with h | h
          · exact h
          · omega
    · have hd1 := hr.dom b1 mb1 hm1
      have hv1' : V b1 := by
        rcases hv1 with h | h
        · exact h
        · omega
      rcases hget b1 x1 hd1.1 hx1 with ⟨rfl, rfl⟩ | ⟨e1, hx1'⟩
      · cases hl1
      · split at hm2
        · cases hm2
          rw [hmb']
          exact (hr.inj b1 b mb1 mb x1 old e1 hv1' hv hm1 hm hx1' hold hl1 hlive ho)
        · have hd2 := hr.dom b2 mb2 hm2
          rcases hget b2 x2 hd2.1 hx2 with ⟨rfl, rfl⟩ | ⟨e2, hx2'⟩
          · cases hl2
          · refine hr.inj b1 b2 mb1 mb2 x1 x2 hne hv1' ?_ hm1 hm2 hx1' hx2' hl1 hl2 ho
            rcases hv2 with h | h
            · exact h
            · omega
  · unfold ups; rw [if_neg (by omega)]
  · unfold ups at hcm
    split at hcm
    · cases hcm; exact ⟨b, mb, by simp, hm, hown, ⟨old, hold, hlive⟩, hmb'.symm⟩
    · have := (hr.dom c x hcm).1; omega
  · rw [List.getElem?_append_left (by simpa using hc), List.getElem?_set_ne]; intro e; exact hn (by simp [e])
  · obtain ⟨x, h1, h2⟩ := hl
    rcases hget c x hc h1 with ⟨rfl, rfl⟩ | ⟨_, h3⟩
    · exact ⟨old, hold, hlive⟩
    · exact ⟨x, h3, h2⟩

section
variable {t t2 e ty : TypeId} {d2 : TypeDesc} {i : TypeInfo} {ts : Array TypeId} {args : Array Value} {base : Option Addr} {sl sc n : Nat} {cx : Value} {cnew : List Value}
theorem append_fits (hts : ts[0]? = some t) (hts2 : ts[1]? = some t2) (hu : P.underlying t = some (.slice e)) (hd2 : P.underlying t2 = some d2) (hnint : ∀ k, d2 ≠ .int k) (hi : P.info? e = some i)
    (ha0 : args[0]? = some (.slice base sl sc)) (ha1 : args[1]? = some cx) (hlen : (Builtin.lenOf cx).run P w = .ok n w) (hfc : (Builtin.firstCells i.size n cx).run P w = .ok cnew.toArray w)
    (hfit : sl + n ≤ sc) {w' : World} (hst : match base with | some a => (storeCells (a.add (sl * i.size)) cnew).run P w = .ok () w' | none => w' = w) :
    (Builtin.append_ ts ty args).run P w = .ok (.slice base (sl + n) sc) w' := by
  unfold Builtin.append_
  cases d2 <;> first
    | exact absurd rfl (hnint _)
    | (simp only [hts, hts2, ha0, ha1, Sem.run_bind, run_underlying' hu, run_underlying' hd2, Result.andThen_ok, run_sizeOf' hi, Sem.run_pure, Bool.false_eq_true, if_false, hlen, Bool.not_false, if_true, if_pos hfit, hfc]
       cases base with
       | none => simp only at hst; subst hst; simp
       | some a => simp only at hst; simp [hst])
theorem append_grows (hts : ts[0]? = some t) (hts2 : ts[1]? = some t2) (hu : P.underlying t = some (.slice e)) (hd2 : P.underlying t2 = some d2) (hnint : ∀ k, d2 ≠ .int k) (hi : P.info? e = some i) {z : Value} (hz : i.zero = some z)
    (ha0 : args[0]? = some (.slice base sl sc)) (ha1 : args[1]? = some cx) (hlen : (Builtin.lenOf cx).run P w = .ok n w) 
    (hfit : ¬ sl + n ≤ sc) (hb1 : sl + n ≤ 2 ^ 46) (hb2 : (sl + n) * i.bytes ≤ 2 ^ 46) {old : List Value}
    (hold : ∀ w' : World, w'.heap = w.heap → (Builtin.firstCells i.size sl (.slice base sl sc)).run P w' = .ok old.toArray w')
    (hfc : ∀ w' : World, w'.heap = w.heap → (Builtin.firstCells i.size n cx).run P w' = .ok cnew.toArray w') :
    ∃ k rest, (Builtin.append_ ts ty args).run P w = .ok (.slice (some ⟨w.heap.size, 0, none⟩) (sl + n) (sl + n + k)) { w with heap := w.heap.push (.cells (old.toArray ++ cnew.toArray ++ rest) e), drawn := w.drawn + 1 } ∧ rest.size = k * z.cells.size := by
  have h1 : ¬ (((sl + n : Nat) : Int) > IntKind.i64.max) := by
    have : IntKind.i64.max = (2 ^ 63 : Int) - 1 := rfl
    rw [this]; omega
  have h2 : ¬ (Builtin.nextslicecap (sl + n) sc * i.bytes > 2 ^ 48) := by
    have := nextcap_le (need := sl + n) (cc := sc) (by omega)
    have h3 : Builtin.nextslicecap (sl + n) sc * i.bytes ≤ 2 * (sl + n) * i.bytes := Nat.mul_le_mul_right _ this
    have h4 : 2 * (sl + n) * i.bytes = 2 * ((sl + n) * i.bytes) := by rw [Nat.mul_assoc]
    omega
  have hq : (Question.appendCap (sl + n) sc e).forced = false := rfl
  obtain ⟨k, hk⟩ : ∃ k, (Question.appendCap (sl + n) sc e).cut (w.tape w.drawn (.appendCap (sl + n) sc e)) = sl + n + k := ⟨_, rfl⟩
  refine ⟨k, Builtin.zeroCells z.cells k, ?_, by simp [Builtin.zeroCells]⟩
  have hk0 : sl + n + k - (sl + n) = k := by omega
  have g1 := hold { w with drawn := w.drawn + 1 } rfl
  have g2 := hfc { w with drawn := w.drawn + 1 } rfl
  unfold Builtin.append_
  cases d2 <;> first
    | exact absurd rfl (hnint _)
    | (simp only [hts, hts2, ha0, ha1, Sem.run_bind, run_underlying' hu, run_underlying' hd2, Result.andThen_ok, run_sizeOf' hi, Sem.run_pure, Bool.false_eq_true, if_false, hlen, Bool.not_false, if_true, if_neg hfit, h1, false_and, run_typeInfo' hi, if_neg h2, run_choose, hq, hk, run_askRoom, g1, g2, run_zeroValue' hi hz, hk0, newRow, run_newObj])
end
theorem srcCells_zero {size : Nat} {x : Value} {new : List Value} {fl : Bool} {rd : List Nat} (hs : srcCells h size x = some (0, new, fl, rd)) : rd = [] := by
  unfold srcCells at hs
  split at hs
  · cases hs; rfl
  · split at hs
    · cases hs; rfl
    · rename_i hn0
      split at hs
      · simp only [Option.map_eq_some_iff, Prod.mk.injEq] at hs
        obtain ⟨l, hl, h1, _⟩ := hs
        exact (hn0 h1).elim
      · cases hs
  · split at hs
    · simp at hs; exact hs.2.2.2
    · cases hs
  · cases hs
/-- the new row of an append that grows -/
theorem grown (hr : HR V m h w) {old new cold cnew : List Value} {rest : Array Value} {sl k es : Nat} {e : TypeId} {flat : Bool} {x : Sem Value} {zs : Nat} {rd : List Nat}
    (hold : VRL m old cold) (hnew : VRL m new cnew) (hlen : (old ++ new).length = sl * es) (hrest : rest.size = k * zs) (hfl : flat = true → (old ++ new).all scal = true)
    (hrun : x.run P w = .ok (.slice (some ⟨w.heap.size, 0, none⟩) sl (sl + k)) { w with heap := w.heap.push (.cells (cold.toArray ++ cnew.toArray ++ rest) e), drawn := w.drawn + 1 }) (hzs : es = zs) :
    ∃ cv w' m', x.run P w = .ok cv w' ∧ VR m' (.slice (some ⟨h.length, 0, none⟩) sl sl) cv ∧ HR (fun b => V b ∨ h.length ≤ b) m' (h ++ [.cells (old ++ new) es flat true]) w' ∧ Ext m h.length h w [] m' (h ++ [.cells (old ++ new) es flat true]) w' := by
  subst hzs
  generalize hcc : cold.toArray ++ cnew.toArray ++ rest = cc at hrun
  have hvr := hold.append hnew
  have hl := hvr.length
  have hcs : cc.size = sl * es + k * es := by
    rw [← hcc]; simp only [Array.size_append, List.size_toArray, hrest]
    simp only [List.length_append] at hl hlen; omega
  obtain ⟨h1, h2⟩ := hr.alloc (w' := { w with heap := w.heap.push (.cells cc e), drawn := w.drawn + 1 }) (mb := ⟨w.heap.size, 0, cc.size, es, true⟩) (blk := .cells (old ++ new) es flat true) rfl rfl fun w'' hn => by
    refine ⟨cc, e, (0, 0), hn, rfl, rfl, by simp only; omega, fun i v hi => ?_, fun _ => ⟨rfl, fun o _ => by simp⟩⟩
    obtain ⟨cv, e1, e2⟩ := hvr.get i v hi
    refine ⟨⟨cv, ?_, e2⟩, fun hf => List.all_eq_true.1 (hfl hf) v (List.mem_of_getElem? hi)⟩
    have hlt : i < (cold ++ cnew).length := (List.getElem?_eq_some_iff.1 e1).1
    rw [← hcc, Nat.zero_add, Array.getElem?_append_left (by simpa using hlt)]
    simpa using e1
  refine ⟨_, _, _, hrun, ?_, h1, h2⟩
  refine VR.slice (mb := ⟨w.heap.size, 0, cc.size, es, true⟩) (by simp [ups]) (fun _ => rfl) (Nat.le_refl _) (by omega) (fun _ => ?_)
  simp only [hcs, Nat.add_mul]; omega
theorem appendA_spec (hr : HR V m h w) {t : TypeId} {s x cs cx : Value} {ts : Array TypeId} {d2 : TypeDesc} {t2 ty : TypeId} {r : OR} (hts : ts[0]? = some t) (hts2 : ts[1]? = some t2) (hd2 : P.underlying t2 = some d2) (hnint : ∀ k, d2 ≠ .int k)
    (hs : VR m s cs) (hx : VR m x cx) {args : Array Value} (ha0 : args[0]? = some cs) (ha1 : args[1]? = some cx) (he : appendA P h t s x = some r) (hrd : ∀ b, b ∈ r.rd → V b) :
    ∃ cv w' m', (Builtin.append_ ts ty args).run P w = .ok cv w' ∧ VR m' r.v cv ∧ HR (fun b => V b ∨ h.length ≤ b) m' r.h w' ∧ Ext m h.length h w r.wr m' r.h w' := by
  unfold appendA at he
  split at he
  · rename_i e hu
    split at he
    · rename_i i hi
      split at he
      · rename_i n new fl rd hsrc
        split at he
        · -- onto nil
          have hcs : cs = .slice none 0 0 := by cases hs; rfl
          subst hcs
          split at he
          · cases he
            have hrd0 := srcCells_zero hsrc
            obtain ⟨cnew, q2, q4, q5, q1⟩ := srcCells_spec (P := P) hr hx hsrc (fun b hb => by rw [hrd0] at hb; simp at hb)
            have := append_fits (P := P) (ty := ty) hts hts2 hu hd2 hnint hi ha0 ha1 (q1 w rfl).1 (q1 w rfl).2 (by omega) (w' := w) rfl
            exact ⟨_, w, m, this, .nilSlice, hr.more, .refl m h w fun b mb hm => (hr.dom b mb hm).1⟩
          · rename_i hn0
            split at he
            · rename_i hc
              obtain ⟨c1, c2, c3, c4⟩ := hc
              cases he
              obtain ⟨z, hz, hzs⟩ := Option.map_eq_some_iff.1 c4
              have hn : n ≠ 0 := fun e => hn0 e
              obtain ⟨cnew, q2, q4, q5, q1⟩ := srcCells_spec (P := P) hr hx hsrc hrd
              obtain ⟨k, rest, hrun, hrest⟩ := append_grows (P := P) (ty := ty) (w := w) (old := []) hts hts2 hu hd2 hnint hi hz ha0 ha1 (q1 w rfl).1 (by omega) (by omega) (by simpa using c1) (fun w' _ => rfl) (fun w' hw => (q1 w' hw).2)
              have := grown hr (old := []) (cold := []) (rd := rd) .nil q2 (by simpa using q4) hrest (fun hf => q5 hf) hrun hzs.symm
              simpa using this
            · cases he
        · -- onto a slice
          rename_i b off l c
          rcases vr_slice_inv hs with ⟨rfl, rfl, rfl⟩ | ⟨mb, co, cc, hm, g1, g2, g3, g4, rfl⟩
          · split at he
            · cases he
              have hrd0 := srcCells_zero hsrc
              obtain ⟨cnew, q2, q4, q5, q1⟩ := srcCells_spec (P := P) hr hx hsrc (fun b hb => by rw [hrd0] at hb; simp at hb)
              have := append_fits (P := P) (ty := ty) hts hts2 hu hd2 hnint hi ha0 ha1 (q1 w rfl).1 (q1 w rfl).2 (by omega) (w' := w) rfl
              exact ⟨_, w, m, this, .nil0, hr.more, .refl m h w fun b mb hm => (hr.dom b mb hm).1⟩
            · rename_i hn0
              split at he
              · rename_i cs' es flat hb
                split at he
                · rename_i old hold
                  split at he
                  · rename_i hc
                    obtain ⟨c1, c2, c3, c4, c5, c6⟩ := hc
                    cases he
                    obtain ⟨z, hz, hzs⟩ := Option.map_eq_some_iff.1 c5
                    have hn : n ≠ 0 := fun e => hn0 e
                    obtain ⟨cnew, q2, q4, q5, q1⟩ := srcCells_spec (P := P) hr hx hsrc (fun b hb => hrd b (by simp [hb]))
                    obtain ⟨k, rest, hrun, hrest⟩ := append_grows (P := P) (ty := ty) (w := w) (old := []) hts hts2 hu hd2 hnint hi hz ha0 ha1 (q1 w rfl).1 (by omega) (by omega) (by simpa using c1) (fun w' _ => rfl) (fun w' hw => (q1 w' hw).2)
                    have hold0 : old = [] := List.eq_nil_of_length_eq_zero (by rw [(rdN_spec hold).1]; simp)
                    subst hold0
                    have hr2 : HR V m (h.set b .dead) w := hr.deadAt
                    have he2 : Ext m h.length h w [b] m (h.set b .dead) w := Ext.deadAt hr
                    have hlen' : (h.set b .dead).length = h.length := by simp
                    obtain ⟨cv, w', m', y1, y2, y3, y4⟩ := grown hr2 (rd := rd) (flat := flat && fl) (old := []) (cold := []) .nil q2 (by simpa using q4) hrest (fun hf => by
                      simp only [Bool.and_eq_true] at hf
                      simpa using q5 hf.2) hrun hzs.symm
                    rw [hlen'] at y2 y3 y4
                    refine ⟨cv, w', m', y1, by simpa using y2, by simpa using y3, ?_⟩
                    refine (he2.trans y4 (Nat.le_refl _) (fun x hx => hx) fun x hx => by simp at hx)
                  · cases he
                · cases he
              · cases he
          split at he
          · cases he
            have hrd0 := srcCells_zero hsrc
            obtain ⟨cnew, q2, q4, q5, q1⟩ := srcCells_spec (P := P) hr hx hsrc (fun b hb => by rw [hrd0] at hb; simp at hb)
            have hnil : cnew = [] := by
              have := q2.length
              exact List.eq_nil_of_length_eq_zero (by rw [this, q4]; simp)
            subst hnil
            have := append_fits (P := P) (ty := ty) hts hts2 hu hd2 hnint hi ha0 ha1 (q1 w rfl).1 (q1 w rfl).2 (by omega) (w' := w) (by simp [storeCells])
            exact ⟨_, w, m, this, .slice hm g1 g2 g3 g4, hr.more, .refl m h w fun b mb hm => (hr.dom b mb hm).1⟩
          · rename_i hn0
            split at he
            · rename_i cs' es flat hb
              split at he
              · rename_i old hold
                split at he
                · rename_i hc
                  obtain ⟨c1, c2, c3, c4, c5, c6⟩ := hc
                  cases he
                  obtain ⟨z, hz, hzs⟩ := Option.map_eq_some_iff.1 c5
                  have hn : n ≠ 0 := fun e => hn0 e
                  obtain ⟨cnew, q2, q4, q5, q1⟩ := srcCells_spec (P := P) hr hx hsrc (fun b hb => hrd b (by simp [hb]))
                  have hvb := hrd b (by simp)
                  obtain ⟨ca, ct, fz, k1, k2, k3, k4, k5, k6⟩ := cells_blk hr hvb hm hb
                  obtain ⟨hown, hzf⟩ := k6 rfl
                  obtain ⟨cl, d1, d2, d3⟩ := k5.read hold
                  have hlo := (rdN_spec hold).1
                  have hext := g4 hown
                  rw [k3, c4] at hext
                  by_cases hfit : l + n ≤ cc
                  · -- in place
                    have hle : (l + n) * i.size ≤ cc * i.size := Nat.mul_le_mul_right _ hfit
                    rw [Nat.add_mul] at hle
                    have hnl : cnew.length = n * i.size := by rw [q2.length, q4]
                    obtain ⟨w', hst, ⟨s1, s2, so, su, sta, ca', s3, s4, s5⟩⟩ := run_storeCells (P := P) (b := mb.blk) (o := co + l * i.size) cnew 0 w ca ct fz k1 (by omega) (fun j a1 a2 => hzf j (by omega)) (all_cellV q2 (List.all_eq_true.1 c6))
                    · have hrun := append_fits (P := P) (ty := ty) hts hts2 hu hd2 hnint hi ha0 ha1 (q1 w rfl).1 (q1 w rfl).2 hfit (w' := w') (by simp only [add_none]; exact hst)
                      have hblk : BlkR m (.cells (old ++ new) i.size (flat && fl) true) ⟨mb.blk, co, mb.ext, i.size, true⟩ w' := by
                        refine ⟨ca', ct, fz, s3, by simp only; omega, rfl, by simp only [List.length_append]; omega, fun j v hj => ?_, fun _ => ⟨rfl, hzf⟩⟩
                        by_cases hjl : j < old.length
                        · rw [List.getElem?_append_left hjl] at hj
                          have hl0 : l ≠ 0 := by
                            intro e; subst e; rw [Nat.zero_mul] at hlo; omega
                          have hco := g1 (by omega)
                          obtain ⟨⟨cv, x1, x2⟩, x3⟩ := k5 _ v ((rdN_spec hold).2 j v hj)
                          refine ⟨⟨cv, ?_, x2⟩, fun hf => x3 (by simp only [Bool.and_eq_true] at hf; exact hf.1)⟩
                          rw [s5, if_neg (by simp only; omega)]
                          rw [show co + j = mb.sh + (off + j) by omega]; exact x1
                        · rw [List.getElem?_append_right (by omega)] at hj
                          obtain ⟨cv, x1, x2⟩ := q2.get _ v hj
                          have hjn : j - old.length < new.length := (List.getElem?_eq_some_iff.1 hj).1
                          refine ⟨⟨cv, ?_, x2⟩, fun hf => List.all_eq_true.1 (q5 (by simp only [Bool.and_eq_true] at hf; exact hf.2)) v (List.mem_of_getElem? hj)⟩
                          rw [s5, if_pos (by simp only; omega)]
                          simp only
                          rw [show co + j - (co + l * i.size + 0) = j - old.length by omega]; exact x1
                      obtain ⟨r1, r2⟩ := hr.move (w' := w') (mb' := ⟨mb.blk, co, mb.ext, i.size, true⟩) (blk := .cells (old ++ new) i.size (flat && fl) true) hvb hm hb rfl hown rfl s1 s2 hblk ⟨so, su, sta⟩
                      refine ⟨_, w', _, hrun, ?_, r1, r2⟩
                      exact VR.slice (mb := ⟨mb.blk, co, mb.ext, i.size, true⟩) (by simp [ups]) (fun _ => by simp) (Nat.le_refl _) hfit (fun _ => by simpa using hext)
                  · -- a new row
                    obtain ⟨hr2, he2⟩ := hr.kill hvb hm hb rfl hown
                    have hold' : ∀ w' : World, w'.heap = w.heap → (Builtin.firstCells i.size l (.slice (some ⟨mb.blk, co, none⟩) l cc)).run P w' = .ok cl.toArray w' := by
                      intro w' hw
                      by_cases hl0 : l = 0
                      · subst hl0
                        have : cl = [] := List.eq_nil_of_length_eq_zero (by rw [d2]; simp)
                        subst this
                        simp [Builtin.firstCells, loadCells, loadCellsFrom]
                      · have hco := g1 (by omega)
                        subst hco
                        have k1' : w'.heap[mb.blk]? = some (.cells ca ct fz) := by rw [hw]; exact k1
                        simp only [Builtin.firstCells, run_loadCells k1' cl d2 d3]
                    obtain ⟨k, rest, hrun, hrest⟩ := append_grows (P := P) (ty := ty) (w := w) (old := cl) hts hts2 hu hd2 hnint hi hz ha0 ha1 (q1 w rfl).1 (by omega) (by omega) c1 hold' (fun w' hw => (q1 w' hw).2)
                    have hlen' : (h.set b .dead).length = h.length := by simp
                    obtain ⟨cv, w', m', y1, y2, y3, y4⟩ := grown hr2 (rd := rd) (flat := flat && fl) d1 q2 (by rw [List.length_append, hlo, q4, Nat.add_mul]) hrest (fun hf => by
                      simp only [Bool.and_eq_true] at hf
                      rw [List.all_append, q5 hf.2, Bool.and_true]
                      obtain ⟨hf1, _⟩ := hf
                      subst hf1
                      exact k5.flat_read hold) hrun hzs.symm
                    rw [hlen'] at y2 y3 y4
                    refine ⟨cv, w', m', y1, y2, y3, ?_⟩
                    refine (he2.trans y4 (Nat.le_refl _) (fun x hx => hx) fun x hx => by simp at hx)
                · cases he
              · cases he
            · cases he
        · cases he
      · cases he
    · cases he
  · cases he
end
end Go.GE
