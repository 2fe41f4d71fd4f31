/-
  GE, part 9: len, min, max; maps; ranges over strings.
-/
import Derived.Test.YtkmompbfcgjgmaaE8
set_option autoImplicit false
set_option linter.unusedVariables false
set_option linter.unusedSimpArgs false
namespace Go.GE
variable {P : Program}
section
variable {a : Act} {o : Oper} {V : Nat → Prop} {m : Mp} {σ : Tm} {h : List Blk} {w : World} {r : OR}

theorem map_blk (hr : HR V m h w) {b : Nat} {es : List (Value × Value)} (hv : V b) {mb : MB} (hm : m b = some mb) (hb : mapAt h b = some es) :
    h[b]? = some (.map es) ∧ mb.own = true ∧ ∃ ces ck, w.heap[mb.blk]? = some (.map ces ck) ∧ MapR m es ces.toList := by
  unfold mapAt at hb
  split at hb
  · rename_i x hx; cases hb
    obtain ⟨h0, ces, ck, h1, h2⟩ := hr.blk b mb _ hv hm hx
    exact ⟨hx, h0, ces, ck, h1, h2⟩
  · cases hb
theorem vr_map_inv {b : Nat} {cv : Value} (hv : VR m (.map (some b)) cv) : ∃ mb, m b = some mb ∧ cv = .map (some mb.blk) := by
  cases hv with | map hm => exact ⟨_, hm, rfl⟩
theorem run_getObj_map {r : Nat} {ces : Array MapEntry} {ck : Nat} (h : w.heap[r]? = some (.map ces ck)) : (getObj r).run P w = .ok (.map ces ck) w := by
  simp only [getObj, Sem.run, h]
theorem run_setObj_map {r : Nat} {ces : Array MapEntry} {ck : Nat} (h : w.heap[r]? = some (.map ces ck)) (o : Obj) : (setObj r o).run P w = .ok () { w with heap := w.heap.setIfInBounds r o } := by
  simp only [setObj, Sem.run, h]

/-! ### len -/
theorem lenA_spec (hr : HR V m h w) {t : TypeId} {x cx v : Value} {rd : List Nat} {ts : Array TypeId} {ty : TypeId} {args : Array Value} (hts : ts[0]? = some t) (ha : args[0]? = some cx) (hx : VR m x cx) (he : lenA P h t x = some (v, rd)) (hrd : ∀ b, b ∈ rd → V b) :
    (Builtin.len_ ts ty args).run P w = .ok v w ∧ VR m v v := by
  unfold lenA at he
  split at he
  · rename_i hu; cases he; cases hx; exact ⟨by simp [Builtin.len_, hts, ha, run_underlying' hu], .int _ _⟩
  · rename_i hu; cases he; exact ⟨by simp [Builtin.len_, hts, ha, run_underlying' hu], .int _ _⟩
  · rename_i ar hu
    split at he
    · rename_i n e hu2; cases he; exact ⟨by simp [Builtin.len_, hts, ha, run_underlying' hu, run_underlying' hu2], .int _ _⟩
    · cases he
  · rename_i hu; cases he; cases hx <;> exact ⟨by simp [Builtin.len_, hts, ha, run_underlying' hu], .int _ _⟩
  · rename_i hu; cases he; cases hx; exact ⟨by simp [Builtin.len_, hts, ha, run_underlying' hu], .int _ _⟩
  · rename_i b hu
    simp only [Option.map_eq_some_iff] at he
    obtain ⟨es, hes, he⟩ := he
    cases he
    obtain ⟨mb, hm, rfl⟩ := vr_map_inv hx
    obtain ⟨_, _, ces, ck, h1, h2⟩ := map_blk hr (hrd b (by simp)) hm hes
    refine ⟨?_, .int _ _⟩
    have : ces.size = es.length := by simpa using h2.1
    simp [Builtin.len_, hts, ha, run_underlying' hu, run_getObj_map h1, this]
  · cases he

/-! ### min, max -/
theorem minA_spec : ∀ (l cl : List Value) (x cx v : Value), VRL m l cl → VR m x cx → minA x l = some v → ∃ cv, (cl.foldlM Builtin.min2 cx).run P w = .ok cv w ∧ VR m v cv := by
  intro l
  induction l with
  | nil => intro cl x cx v hl hx he; cases hl; simp only [minA] at he; cases he; exact ⟨cx, by simp, hx⟩
  | cons y l ih =>
    intro cl x cx v hl hx he
    cases hl with
    | cons hy hl =>
      unfold minA at he
      split at he
      · rename_i e; cases e
      · rename_i k n k' n' r e
        cases e
        cases hx; cases hy
        obtain ⟨cv, h1, h2⟩ := ih _ _ _ v hl (.int _ _) he
        refine ⟨cv, ?_, h2⟩
        simp only [List.foldlM_cons, Sem.run_bind, Builtin.min2, Sem.run_pure, Result.andThen_ok]
        exact h1
      · rename_i s s' r e
        cases e
        cases hx; cases hy
        split at he
        · rename_i b hb
          obtain ⟨cv, h1, h2⟩ := ih _ _ _ v hl (.string _) he
          refine ⟨cv, ?_, h2⟩
          simp only [List.foldlM_cons, Sem.run_bind, Builtin.min2, pureOf_run hb, asBool, Sem.run_pure, Result.andThen_ok]
          exact h1
        · cases he
      · cases he
theorem maxA_spec : ∀ (l cl : List Value) (x cx v : Value), VRL m l cl → VR m x cx → maxA x l = some v → ∃ cv, (cl.foldlM Builtin.max2 cx).run P w = .ok cv w ∧ VR m v cv := by
  intro l
  induction l with
  | nil => intro cl x cx v hl hx he; cases hl; simp only [maxA] at he; cases he; exact ⟨cx, by simp, hx⟩
  | cons y l ih =>
    intro cl x cx v hl hx he
    cases hl with
    | cons hy hl =>
      unfold maxA at he
      split at he
      · rename_i e; cases e
      · rename_i k n k' n' r e
        cases e
        cases hx; cases hy
        obtain ⟨cv, h1, h2⟩ := ih _ _ _ v hl (.int _ _) he
        refine ⟨cv, ?_, h2⟩
        simp only [List.foldlM_cons, Sem.run_bind, Builtin.max2, Sem.run_pure, Result.andThen_ok]
        exact h1
      · cases he
theorem aop_builtin {c : Call} {b : Builtin} {args : List Value} (hop : o.op = .call c) (hc : c.callee = .builtin b) (hr : HR V m h w) (ho : OpdR m σ a o) (hargs : opds σ c.args.toList = some args)
    (he : builtinA P h b c.argTypes.toList args = some r) (hrd : ∀ b, b ∈ r.rd → V b) : OpRes P a o V m h w r := by
  have hl : VRL m args (c.args.toList.map a.eval) := opds_vrl (fun x hx => ho x (by simp only [Op.operands, hop, Call.operands, hc]; simpa using hx)) hargs
  have hca : (c.args.map a.eval).toList = c.args.toList.map a.eval := by simp
  unfold builtinA at he
  split at he
  · rename_i t ts x xs hts
    simp only [Option.map_eq_some_iff] at he
    obtain ⟨⟨v, rd⟩, h1, rfl⟩ := he
    generalize hcl : c.args.toList.map a.eval = cl at hl
    cases hl with
    | cons hx hxs =>
      rename_i cx cxs
      obtain ⟨h2, h3⟩ := lenA_spec (P := P) (ts := c.argTypes) (ty := o.type) (args := c.args.map a.eval) hr (t := t) (by have := congrArg (fun l => l[0]?) hts; simpa using this)
        (by have := congrArg (fun l => l[0]?) hcl; simpa using this) hx h1 hrd
      refine .pure' hr (cv := v) ?_ h3
      simp [execOp, hop, resolve, hc, invoke, builtin, h2]
  · rename_i t t2 ts s x xs hts
    split at he
    · cases he
    · rename_i d hn hd
      generalize hcl : c.args.toList.map a.eval = cl at hl
      cases hl with
      | cons hs hl =>
        cases hl with
        | cons hx hxs =>
          rename_i cs _ cx cxs
          obtain ⟨cv, w', m', h1, h2, h3, h4⟩ := appendA_spec (P := P) (ts := c.argTypes) (ty := o.type) (args := c.args.map a.eval) hr (t := t) (t2 := t2) (by have := congrArg (fun l => l[0]?) hts; simpa using this)
            (by have := congrArg (fun l => l[1]?) hts; simpa using this) hd (fun k e => hn k e) hs hx (by have := congrArg (fun l => l[0]?) hcl; simpa using this)
            (by have := congrArg (fun l => l[1]?) hcl; simpa using this) he hrd
          refine ⟨cv, w', m', .inl ?_, h2, h3, h4⟩
          simp [execOp, hop, resolve, hc, invoke, builtin, h1]
    · cases he
  · rename_i x xs
    obtain ⟨v, hv, rfl⟩ := bind_pureR he
    generalize hcl : c.args.toList.map a.eval = cl at hl
    cases hl with
    | cons hx hxs =>
      obtain ⟨cv, h1, h2⟩ := minA_spec (P := P) (w := w) _ _ _ _ _ hxs hx hv
      refine .pure' hr (cv := cv) ?_ h2
      simp [execOp, hop, resolve, hc, invoke, builtin, Builtin.min_, hcl, h1]
  · rename_i x xs
    obtain ⟨v, hv, rfl⟩ := bind_pureR he
    generalize hcl : c.args.toList.map a.eval = cl at hl
    cases hl with
    | cons hx hxs =>
      obtain ⟨cv, h1, h2⟩ := maxA_spec (P := P) (w := w) _ _ _ _ _ hxs hx hv
      refine .pure' hr (cv := cv) ?_ h2
      simp [execOp, hop, resolve, hc, invoke, builtin, Builtin.max_, hcl, h1]
  · cases he

/-! ### maps -/
theorem ba_beq_refl (s : ByteArray) : (s == s) = true := by
  cases s; rename_i d; show (d == d) = true; exact beq_self_eq_true d
theorem sameK_now {kd : TypeDesc} {k k' : Value} {b : Bool} (hk : keyKind kd k = true) (hs : sameK k k' = some b) : Instr.sameNow kd k k' = some b := by
  unfold keyKind at hk
  split at hk
  · cases k' <;> simp [sameK] at hs
    simp [Instr.sameNow, hs]
  · cases k' <;> simp [sameK] at hs
    simp [Instr.sameNow, hs]
  · cases k' <;> simp [sameK] at hs
    simp [Instr.sameNow, hs]
  · cases hk
theorem sameK_eq {k k' : Value} (hs : sameK k k' = some true) : k' = k := by
  unfold sameK at hs
  split at hs
  · split at hs
    · rename_i e; subst e
      simp only [Option.some.injEq, beq_iff_eq] at hs
      subst hs; rfl
    · cases hs
  · rename_i s s'
    simp only [Option.some.injEq] at hs
    have : s = s' := by
      have := hs
      cases s; cases s'
      rename_i d d'
      have h2 : (d == d') = true := this
      rw [eq_of_beq h2]
    rw [this]
  · rename_i b b'
    simp only [Option.some.injEq, beq_iff_eq] at hs
    rw [hs]
  · cases hs
theorem findA_now {kd : TypeDesc} {k : Value} (hk : keyKind kd k = true) : ∀ (es : List (Value × Value)) (ces : List MapEntry) (i : Nat) (res : Option (Nat × Value)), MapR m es ces → findA k es i = some res →
    (res = none ∧ Instr.findNow kd k ces i = some none) ∨ (∃ j v cv e, res = some (j, v) ∧ Instr.findNow kd k ces i = some (some (j, cv)) ∧ VR m v cv ∧ i ≤ j ∧ ces[j - i]? = some e ∧ e.key = k ∧ j - i < es.length) := by
  intro es
  induction es with
  | nil =>
    intro ces i res hm he
    have : ces = [] := by simpa using hm.1
    subst this
    simp only [findA] at he; cases he
    exact .inl ⟨rfl, rfl⟩
  | cons p es ih =>
    intro ces i res hm he
    obtain ⟨k', v⟩ := p
    cases ces with
    | nil => simp [MapR] at hm
    | cons e ces =>
      obtain ⟨h1, e', h2, h3, h4⟩ := hm.2 0 k' v rfl
      simp at h2
      subst h2
      simp only [findA] at he
      have hsub : MapR m es ces := ⟨by simpa using hm.1, fun i k v hi => by simpa using hm.2 (i + 1) k v (by simpa using hi)⟩
      split at he
      · rename_i hs
        cases he
        right
        refine ⟨i, v, e.val, e, rfl, ?_, h4, Nat.le_refl _, by simp, ?_, by simp⟩
        · simp only [Instr.findNow, h3, sameK_now hk hs]
        · rw [h3]; exact sameK_eq hs
      · rename_i hs
        rcases ih ces (i + 1) res hsub he with ⟨g1, g2⟩ | ⟨j, v', cv, e2, g1, g2, g3, g4, g5, g6, g7⟩
        · left; exact ⟨g1, by simp only [Instr.findNow, h3, sameK_now hk hs, g2]⟩
        · right
          refine ⟨j, v', cv, e2, g1, by simp only [Instr.findNow, h3, sameK_now hk hs, g2], g3, by omega, ?_, g6, by simp; omega⟩
          rw [show j - i = (j - (i + 1)) + 1 by omega]; simpa using g5
      · cases he
theorem run_checkKey {kd : TypeDesc} {k : Value} {t : TypeId} (hu : P.underlying t = some kd) (hk : keyKind kd k = true) (e : Bool) (n : Nat) : (Instr.checkKey e (n + 1) t k).run P w = .ok () w := by
  unfold keyKind at hk
  split at hk
  · simp [Instr.checkKey, run_underlying' hu]
  · simp [Instr.checkKey, run_underlying' hu]
  · simp [Instr.checkKey, run_underlying' hu]
  · cases hk
theorem aop_lookup {t : TypeId} {x y : Operand} {ok : Bool} (hop : o.op = .lookup t x y ok) (hr : HR V m h w) (ho : OpdR m σ a o)
    (he : (match P.underlying t, opd σ x, opd σ y with
    | some (.map kt et), some (.map mm), some kv => match P.underlying kt, zeroA P et, (match mm with | none => some ([], []) | some b => (mapAt h b).map fun es => (es, [b])) with
      | some kd, some z, some (es, rd) => cond (keyKind kd kv) (match findA kv es 0 with
        | some r => some (⟨if ok then .tuple #[(r.map (·.2)).getD z, .bool r.isSome] else (r.map (·.2)).getD z, h, rd, []⟩ : OR)
        | none => none) none
      | _, _, _ => none
    | _, _, _ => none) = some r) (hrd : ∀ b, b ∈ r.rd → V b) : OpRes P a o V m h w r := by
  split at he
  · rename_i kt et mm kv hu hx hy
    split at he
    · rename_i kd z es rd hkd hz hes
      rcases cond_eq_some he with ⟨hk, he⟩ | ⟨_, he⟩
      · split at he
        · rename_i res hf
          cases he
          obtain ⟨⟨zi, hz1, hz2⟩, hz3⟩ := zeroA_spec hz
          have hcx := ho x (by simp [Op.operands, hop]) _ hx
          have hks : scal kv = true := by
            unfold keyKind at hk; split at hk <;> first | rfl | cases hk
          have e2 := (ho y (by simp [Op.operands, hop]) _ hy).scal_eq hks
          have hck : ∀ e, (Instr.checkKey e 10000 kt kv).run P w = .ok () w := fun e => run_checkKey hkd hk e 9999
          cases mm with
          | none =>
            simp at hes
            obtain ⟨rfl, rfl⟩ := hes
            have hcv : a.eval x = .map none := by
              generalize a.eval x = cx at hcx
              cases hcx; rfl
            simp only [findA] at hf
            cases hf
            refine .pure' hr (cv := if ok then .tuple #[z, .bool false] else z) ?_ ?_
            · simp only [execOp, hop, Instr.lookup, Sem.run_bind, run_underlying' hu, Result.andThen_ok, e2, hcv, Sem.run_pure, hck, Instr.findKey, run_underlying' hkd, Instr.findNow, run_zeroValue' hz1 hz2]
            · cases ok
              · exact .const hz3
              · exact .tuple (.cons (.const hz3) (.cons (.bool _) .nil))
          | some b =>
            simp only [Option.map_eq_some_iff] at hes
            obtain ⟨es', hes', he⟩ := hes
            cases he
            obtain ⟨mb, hm, hcv⟩ := vr_map_inv hcx
            obtain ⟨_, _, ces, ck, h1, h2⟩ := map_blk hr (hrd b (by simp)) hm hes'
            rcases findA_now hk es ces.toList 0 res h2 hf with ⟨rfl, g2⟩ | ⟨j, v, cv, e, rfl, g2, g3, _⟩
            · refine .pure' hr (cv := if ok then .tuple #[z, .bool false] else z) ?_ ?_
              · simp only [execOp, hop, Instr.lookup, Sem.run_bind, run_underlying' hu, Result.andThen_ok, e2, hcv, run_getObj_map h1, Sem.run_pure, hck, Instr.findKey, run_underlying' hkd, g2, run_zeroValue' hz1 hz2]
              · cases ok
                · exact .const hz3
                · exact .tuple (.cons (.const hz3) (.cons (.bool _) .nil))
            · refine .pure' hr (cv := if ok then .tuple #[cv, .bool true] else cv) ?_ ?_
              · simp only [execOp, hop, Instr.lookup, Sem.run_bind, run_underlying' hu, Result.andThen_ok, e2, hcv, run_getObj_map h1, Sem.run_pure, hck, Instr.findKey, run_underlying' hkd, g2]
              · cases ok
                · exact g3
                · exact .tuple (.cons g3 (.cons (.bool _) .nil))
        · cases he
      · cases he
    · cases he
  · cases he
theorem aop_mapUpdate {t : TypeId} {x y z : Operand} (hop : o.op = .mapUpdate t x y z ∨ o.op = .insert t x y z) (hr : HR V m h w) (ho : OpdR m σ a o)
    (he : (match opd σ x, opd σ y, opd σ z with
    | some mm, some k, some v => updA P h t mm k v
    | _, _, _ => none) = some r) (hrd : ∀ b, b ∈ r.rd → V b) : OpRes P a o V m h w r := by
  split at he
  · rename_i mm k v hx hy hz
    have o1 := ho x (by rcases hop with hop | hop <;> simp [Op.operands, hop]) _ hx
    have o2 := ho y (by rcases hop with hop | hop <;> simp [Op.operands, hop]) _ hy
    have o3 := ho z (by rcases hop with hop | hop <;> simp [Op.operands, hop]) _ hz
    unfold updA at he
    split at he
    · rename_i kt et b hu
      split at he
      · rename_i kd es hkd hes
        rcases cond_eq_some he with ⟨hk, he⟩ | ⟨_, he⟩
        · have hks : scal k = true := by
            unfold keyKind at hk; split at hk <;> first | rfl | cases hk
          have e2 := o2.scal_eq hks
          obtain ⟨mb, hm, hcv⟩ := vr_map_inv o1
          have hvb : V b := by
            split at he <;> first | (cases he; exact hrd b (by simp)) | cases he
          obtain ⟨hb, hown, ces, ck, h1, h2⟩ := map_blk hr hvb hm hes
          have hck : ∀ e, (Instr.checkKey e 10000 kt k).run P w = .ok () w := fun e => run_checkKey hkd hk e 9999
          have hlt : mb.blk < w.heap.size := (hr.dom b mb hm).2
          have main : ∀ (es' : List (Value × Value)) (ces' : Array MapEntry) (ck' : Nat), MapR m es' ces'.toList →
              (Instr.mapUpdate t (a.eval x) (a.eval y) (a.eval z)).run P w = .ok () { w with heap := w.heap.setIfInBounds mb.blk (.map ces' ck') } →
              OpRes P a o V m h w ⟨undef, h.set b (.map es'), [b], [b]⟩ := by
            intro es' ces' ck' hmr hrun
            obtain ⟨r1, r2⟩ := hr.put (w' := { w with heap := w.heap.setIfInBounds mb.blk (.map ces' ck') }) (blk := .map es') hvb hm hb rfl hown (by simp) (fun c hc => by simp only [Array.getElem?_setIfInBounds_ne (Ne.symm hc)]) ⟨hown, ces', ck', by simp [hlt], hmr⟩ ⟨rfl, rfl, rfl⟩
            refine ⟨undef, _, m, .inr (.inl ⟨?_, rfl⟩), .undef, ?_, r2⟩
            · rcases hop with hop | hop <;> simp [execOp, hop, hrun]
            · have := r1.more
              simp only [List.length_set] at this
              exact this
          have hrun0 : ∀ K : Option (Nat × Value) → Sem Unit, ∀ res, Instr.findNow kd k ces.toList 0 = some res → (K res).run P w = (K res).run P w := fun _ _ _ => rfl
          split at he
          · rename_i i v0 hf
            cases he
            rcases findA_now hk es ces.toList 0 _ h2 hf with ⟨q, _⟩ | ⟨j, v', cv, e, q, g2, g3, g4, g5, g6, g7⟩
            · cases q
            · cases q
              simp only [Nat.sub_zero] at g5 g7
              have g5' : ces[i]? = some e := by simpa using g5
              have hsame : ∀ n : Nat, Instr.sameBits (n + 1) k k = true := by
                intro n
                unfold keyKind at hk
                split at hk
                · simp [Instr.sameBits]
                · simp [Instr.sameBits, ba_beq_refl]
                · simp [Instr.sameBits]
                · cases hk
              refine main (es.set i (k, v)) (ces.modify i fun e => { e with key := k, val := a.eval z }) ck ?_ ?_
              · refine ⟨by simpa using h2.1, fun n k' v'' hn => ?_⟩
                by_cases hni : n = i
                · subst hni
                  rw [List.getElem?_set_self g7] at hn
                  cases hn
                  refine ⟨hks, { e with key := k, val := a.eval z }, ?_, rfl, o3⟩
                  simp [Array.getElem?_modify, g5']
                · rw [List.getElem?_set_ne (Ne.symm hni)] at hn
                  obtain ⟨p1, e', p2, p3, p4⟩ := h2.2 n k' v'' hn
                  refine ⟨p1, e', ?_, p3, p4⟩
                  have p2' : ces[n]? = some e' := by simpa using p2
                  simp [Array.getElem?_modify, Ne.symm hni, p2']
              · have hs : Instr.sameBits 10000 k k = true := hsame 9999
                simp only [Instr.mapUpdate, Sem.run_bind, run_underlying' hu, Result.andThen_ok, hcv, e2, run_getObj_map h1, hck, Instr.findKey, run_underlying' hkd, g2, Sem.run_pure, g5', Option.map_some, Option.getD_some, g6, Instr.keyThatStays, hs, if_true, run_setObj_map h1]
          · rename_i hf
            cases he
            rcases findA_now hk es ces.toList 0 _ h2 hf with ⟨q, g2⟩ | ⟨j, v', cv, e, q, _⟩
            · refine main (es ++ [(k, v)]) (ces.push { key := k, val := a.eval z, born := ck }) (ck + 1) ?_ ?_
              · refine ⟨by simpa using h2.1, fun n k' v'' hn => ?_⟩
                have hcl : ces.size = es.length := by simpa using h2.1
                by_cases hni : n < es.length
                · rw [List.getElem?_append_left hni] at hn
                  obtain ⟨p1, e', p2, p3, p4⟩ := h2.2 n k' v'' hn
                  refine ⟨p1, e', ?_, p3, p4⟩
                  have p2' : ces[n]? = some e' := by simpa using p2
                  have : n < ces.size := by omega
                  simp only [Array.toList_push]
                  rw [List.getElem?_append_left (by simpa using this)]
                  exact p2
                · rw [List.getElem?_append_right (by omega)] at hn
                  have hn0 : n - es.length = 0 := by
                    rcases Nat.eq_zero_or_pos (n - es.length) with h | h
                    · exact h
                    · rw [List.getElem?_eq_none (by simp; omega)] at hn; cases hn
                  rw [hn0] at hn
                  simp at hn
                  obtain ⟨rfl, rfl⟩ := hn
                  refine ⟨hks, { key := k, val := a.eval z, born := ck }, ?_, rfl, o3⟩
                  have : n = ces.size := by omega
                  subst this
                  simp
              · simp only [Instr.mapUpdate, Sem.run_bind, run_underlying' hu, Result.andThen_ok, hcv, e2, run_getObj_map h1, hck, Instr.findKey, run_underlying' hkd, g2, Sem.run_pure, run_setObj_map h1]
            · cases q
          · cases he
        · cases he
      · cases he
    · cases he
  · cases he

/-! ### a range over a string -/
theorem aop_range {t : TypeId} {x : Operand} (hop : o.op = .range t x) (hr : HR V m h w) (ho : OpdR m σ a o)
    (he : (match P.underlying t, opd σ x with
    | some .string, some (.string s) => allocR h (.siter s 0) ptrTo
    | _, _ => none) = some r) : OpRes P a o V m h w r := by
  split at he
  · rename_i s hu hx
    simp only [allocR, Option.some.injEq] at he
    subst he
    have e1 := (ho x (by simp [Op.operands, hop]) _ hx).scal_eq rfl
    obtain ⟨h1, h2⟩ := hr.alloc (w' := { w with heap := w.heap.push (.stringIter s 0) }) (mb := ⟨w.heap.size, 0, 0, 0, true⟩) (blk := .siter s 0) rfl rfl fun w'' hn => ⟨⟨rfl, rfl⟩, hn⟩
    refine ⟨.pointer (some ⟨w.heap.size, 0, none⟩), _, _, .inl ?_, vr_ptrTo (mb := ⟨w.heap.size, 0, 0, 0, true⟩) (by simp [ups]) rfl rfl, h1, h2⟩
    simp [execOp, hop, Instr.range, run_underlying' hu, e1]
  · cases he
theorem aop_next {x : Operand} (hop : o.op = .next x true) (hr : HR V m h w) (ho : OpdR m σ a o)
    (he : (match opd σ x with
    | some (.pointer (some ⟨b, 0, none⟩)) => match h[b]? with
      | some (.siter s p) => if p < s.size then
          some (⟨.tuple #[.bool true, goInt p, .int .i32 (Utf8.decode s p).1], h.set b (.siter s (p + (Utf8.decode s p).2)), [b], [b]⟩ : OR)
        else some ⟨.tuple #[.bool false], h, [b], []⟩
      | _ => none
    | _ => none) = some r) (hrd : ∀ b, b ∈ r.rd → V b) : OpRes P a o V m h w r := by
  split at he
  · rename_i b hx
    obtain ⟨mb, hm, hcv⟩ := vr_ptr_inv (ho x (by simp [Op.operands, hop]) _ hx)
    split at he
    · rename_i s p hb
      have hvb : V b := by
        split at he <;> (cases he; exact hrd b (by simp))
      obtain ⟨⟨hown, hsh⟩, hit⟩ := hr.blk b mb _ hvb hm hb
      have hcv' : a.eval x = .pointer (some ⟨mb.blk, 0, none⟩) := by rw [hcv, hsh]
      have hgo : (getObj mb.blk).run P w = .ok (.stringIter s p) w := by simp only [getObj, Sem.run, hit]
      have hlt : mb.blk < w.heap.size := (hr.dom b mb hm).2
      split at he
      · rename_i hp
        cases he
        have hso : ∀ ob, (setObj mb.blk ob).run P w = .ok () { w with heap := w.heap.setIfInBounds mb.blk ob } := fun ob => by simp only [setObj, Sem.run, hit]
        obtain ⟨r1, r2⟩ := hr.put (w' := { w with heap := w.heap.setIfInBounds mb.blk (.stringIter s (p + (Utf8.decode s p).2)) }) (blk := .siter s (p + (Utf8.decode s p).2)) hvb hm hb rfl hown (by simp)
          (fun c hc => by simp only [Array.getElem?_setIfInBounds_ne (Ne.symm hc)]) ⟨⟨hown, hsh⟩, by simp [hlt]⟩ ⟨rfl, rfl, rfl⟩
        refine ⟨.tuple #[.bool true, goInt p, .int .i32 (Utf8.decode s p).1], _, m, .inl ?_, .tuple (.cons (.bool _) (.cons (.int _ _) (.cons (.int _ _) .nil))), ?_, r2⟩
        · simp [execOp, hop, Instr.next, hcv', hgo, hp, hso]
        · have := r1.more
          simp only [List.length_set] at this
          exact this
      · rename_i hp
        cases he
        refine .pure' hr (cv := .tuple #[.bool false]) ?_ (.tuple (.cons (.bool _) .nil))
        simp [execOp, hop, Instr.next, hcv', hgo, hp]
    · cases he
  · cases he
end
end Go.GE
