/-
  GE, part 4: arithmetic, comparisons, aggregates, addresses.
-/
import Derived.Test.YtkmompbfcgjgmaaE3
set_option autoImplicit false
set_option linter.unusedVariables false
namespace Go.GE
variable {P : Program}
section
variable {a : Act} {o : Oper} {V : Nat → Prop} {m : Mp} {σ : Tm} {h : List Blk} {w : World} {r : OR}

theorem pureOf_spec {s : Sem Value} {v : Value} (hs : pureOf s = some v) : s = .pure v := by
  cases s <;> simp [pureOf] at hs; subst hs; rfl
theorem pureOf_run {s : Sem Value} {v : Value} (hs : pureOf s = some v) (w : World) : s.run P w = .ok v w := by
  rw [pureOf_spec hs]; rfl

/-! ### comparisons -/
theorem part_spec {t : TypeId} {xs cxs : Array Value} {off : Nat} {v : Value} (hx : VRL m xs.toList cxs.toList) (hp : partA P t xs off = some v) (w : World) :
    ∃ cv, (part t cxs off).run P w = .ok cv w ∧ VR m v cv := by
  unfold partA at hp
  split at hp
  · rename_i d i hd hi
    have hag := run_isAgg' hd w
    have key : isAggD d = true → some (Value.agg (xs.extract off (off + i.size))) = some v → ∃ cv, (part t cxs off).run P w = .ok cv w ∧ VR m v cv := by
      intro h1 h2
      cases h2
      refine ⟨.agg (cxs.extract off (off + i.size)), by simp [part, hag, h1, run_sizeOf' hi], .agg ?_⟩
      have hl := hx.length
      simp only [Array.length_toList] at hl
      refine .of_get (by simp [hl]) fun k u hk => ?_
      simp only [Array.toList_extract, List.extract_eq_take_drop] at hk ⊢
      rw [List.getElem?_take] at hk ⊢
      split at hk
      · rename_i hlt
        rw [if_pos hlt]
        rw [List.getElem?_drop] at hk ⊢
        exact hx.get _ _ hk
      · cases hk
    have key2 : isAggD d = false → xs[off]? = some v → ∃ cv, (part t cxs off).run P w = .ok cv w ∧ VR m v cv := by
      intro h1 h2
      obtain ⟨cv, e1, e2⟩ := hx.get off v (by simpa using h2)
      refine ⟨cv, ?_, e2⟩
      have e1' : cxs[off]? = some cv := by simpa using e1
      simp [part, hag, h1, e1']
    split at hp
    · exact key rfl hp
    · exact key rfl hp
    · rename_i n1 n2
      refine key2 ?_ hp
      cases d <;> first | rfl | exact absurd rfl (n1 _) | exact absurd rfl (n2 _ _)
  · cases hp
theorem eqA_spec : ∀ (d : Nat) (t : TypeId) (x y cx cy : Value) (b : Bool), eqA P d t x y = some b → VR m x cx → VR m y cy → ∀ (D : Nat) (w : World), d ≤ D → (Op.equalIn D t cx cy).run P w = .ok b w := by
  intro d
  induction d with
  | zero => intro t x y cx cy b he; cases he
  | succ d ih =>
    intro t x y cx cy b he hx hy D w hD
    obtain ⟨D, rfl⟩ : ∃ k, D = k + 1 := ⟨D - 1, by omega⟩
    simp only [eqA] at he
    split at he
    case h_1 hu => cases hx; cases hy; cases he; simp [Op.equalIn, run_underlying' hu]
    case h_2 hu => cases hx; cases hy; split at he
                   · rename_i e; subst e; cases he; simp [Op.equalIn, run_underlying' hu]
                   · cases he
    case h_3 hu => cases hx; cases hy; cases he; simp [Op.equalIn, run_underlying' hu]
    case h_4 hu => cases hx; cases he; cases hy <;> simp [Op.equalIn, run_underlying' hu]
    case h_5 hu => cases hx; cases hy; cases he; simp [Op.equalIn, run_underlying' hu]
    case h_6 hu => cases hx; cases hy; cases he; simp [Op.equalIn, run_underlying' hu]
    case h_7 hu => cases hx; cases hy; cases he; simp [Op.equalIn, run_underlying' hu]
    case h_8 hu => cases hx; cases hy; cases he; simp [Op.equalIn, run_underlying' hu]
    case h_9 hu =>
      cases hx
      rcases cond_eq_some he with ⟨_, he⟩ | ⟨hc, he⟩
      · cases he
      · cases he
        cases hy with
        | nilSlice => simp [Op.equalIn, run_underlying' hu]
        | slice _ _ _ _ _ => simp [Op.equalIn, run_underlying' hu]
        | nil0 => simp at hc
    case h_10 hu =>
      rcases cond_eq_some he with ⟨_, he⟩ | ⟨hc, he⟩
      · cases he
      · cases he
        cases hx with
        | slice _ _ _ _ _ => cases hy; simp [Op.equalIn, run_underlying' hu]
        | nil0 => simp at hc
    case h_11 hu => cases hx; cases he; cases hy <;> simp [Op.equalIn, run_underlying' hu]
    case h_12 hu => cases hx; cases hy; cases he; simp [Op.equalIn, run_underlying' hu]
    case h_13 hu => cases hx; cases hy; cases he; simp [Op.equalIn, run_underlying' hu]
    case h_14 hu => cases hx; cases hy; cases he; simp [Op.equalIn, run_underlying' hu]
    case h_15 hu => cases hx; cases hy; cases he; simp [Op.equalIn, run_underlying' hu]
    case h_16 fs xs ys hu =>
      rcases cond_eq_some he with ⟨_, he⟩ | ⟨hst, he⟩
      · cases he
      · cases hx with
        | agg hxs =>
          cases hy with
          | agg hys =>
            rename_i cxs cys
            have hf : P.fieldsOf t = fs := by simp [Program.fieldsOf, hu]
            rw [run_equalIn_struct w D t cxs cys (by rw [hf]; exact hu) hst, hf]
            generalize fs.toList = l at he
            clear hf hu hst
            induction l with
            | nil => cases he; simp [Op.eqFields]
            | cons f l ihl =>
              simp only [eqFs] at he
              simp only [Op.eqFields]
              split at he
              · rename_i hn
                rw [if_pos hn]
                split at he
                · rename_i u v hu hv
                  obtain ⟨cu, c1, c2⟩ := part_spec hxs hu w
                  obtain ⟨cv, c3, c4⟩ := part_spec hys hv w
                  simp only [Sem.run_bind, c1, c3, Result.andThen_ok]
                  split at he
                  · rename_i hh
                    rw [ih _ _ _ _ _ _ hh c2 c4 D w (by omega)]
                    simp only [Result.andThen_ok]
                    exact ihl he
                  · rename_i hh
                    cases he
                    rw [ih _ _ _ _ _ _ hh c2 c4 D w (by omega)]
                    simp
                  · cases he
                · cases he
              · rename_i hn
                rw [if_neg hn]
                exact ihl he
    case h_17 => cases he
theorem eqA_bool {t : TypeId} {b b' : Bool} (hu : P.underlying t = some .bool) : eqA P 20 t (.bool b) (.bool b') = some (b == b') := by
  show eqA P (19 + 1) t (.bool b) (.bool b') = some (b == b')
  unfold eqA; rw [hu]
theorem run_eqGuard_no {op : BinOp} {t : TypeId} {x y : Operand} {u v : Value} (hn : ¬ (u = .nilIface ∧ v = .nilIface)) (ha : ∀ xs ys, u = .agg xs → v = .agg ys → P.eqGuardType P.depth t = false) (w : World) :
    (eqGuard op t x y u v).run P w = .ok () w := by
  cases op <;> first
    | (simp [eqGuard]; done)
    | (cases u <;> first
        | (simp [eqGuard]; done)
        | (cases v <;> first
            | (exact absurd ⟨rfl, rfl⟩ hn)
            | (have := ha _ _ rfl rfl; simp [eqGuard, this]; done)
            | (simp [eqGuard]; done)))
theorem run_eqGuard_nil {op : BinOp} {t : TypeId} {x y : Operand} (hc : (isC x || isC y) = true) (w : World) : (eqGuard op t x y .nilIface .nilIface).run P w = .ok () w := by
  cases op <;> first
    | (simp [eqGuard]; done)
    | (simp only [Bool.or_eq_true] at hc
       rcases hc with hc | hc
       · cases x <;> simp [isC] at hc; simp [eqGuard]
       · cases y <;> simp [isC] at hc; simp [eqGuard])
theorem map_bool {x : Option Bool} {v : Value} {f : Bool → Bool} (hx : x.map (fun b => Value.bool (f b)) = some v) : ∃ b, x = some b ∧ v = .bool (f b) := by
  cases x with
  | none => cases hx
  | some b => exact ⟨b, rfl, by simpa using hx.symm⟩
/-- '==' and '!=' where neither side is a number, a string, a float or a complex number -/
theorem binOp_eql {t : TypeId} {x y : Value} {b : Bool} {w : World} (hx : ∀ k n, x ≠ .int k n) (hx2 : ∀ s, x ≠ .string s) (hx3 : ∀ k n, x ≠ .float k n) (hx4 : ∀ k n q, x ≠ .complex k n q)
    (he : (Op.equal t x y).run P w = .ok b w) : (binOp .eql t x y).run P w = .ok (.bool b) w := by
  have : (do pure (Value.bool (← Op.equal t x y)) : Sem Value).run P w = .ok (.bool b) w := by simp [he]
  cases x <;> first
    | exact absurd rfl (hx _ _)
    | exact absurd rfl (hx2 _)
    | exact absurd rfl (hx3 _ _)
    | exact absurd rfl (hx4 _ _ _)
    | (cases y <;> exact this)
theorem binOp_neq {t : TypeId} {x y : Value} {b : Bool} {w : World} (hx : ∀ k n, x ≠ .int k n) (hx2 : ∀ s, x ≠ .string s) (hx3 : ∀ k n, x ≠ .float k n) (hx4 : ∀ k n q, x ≠ .complex k n q)
    (he : (Op.equal t x y).run P w = .ok b w) : (binOp .neq t x y).run P w = .ok (.bool !b) w := by
  have : (do pure (Value.bool (!(← Op.equal t x y))) : Sem Value).run P w = .ok (.bool !b) w := by simp [he]
  cases x <;> first
    | exact absurd rfl (hx _ _)
    | exact absurd rfl (hx2 _)
    | exact absurd rfl (hx3 _ _)
    | exact absurd rfl (hx4 _ _ _)
    | (cases y <;> exact this)
theorem bin_int {op : BinOp} {t : TypeId} {k k' : IntKind} {x y : Int} {v : Value} {cs : Bool} (he : binA P op t cs (.int k x) (.int k' y) = some v) (w : World) :
    (binOp op t (.int k x) (.int k' y)).run P w = .ok v w ∧ VR m v v := by
  have vr : ∀ {s : Sem Value}, (∀ q, s ≠ .pure q) ∨ (∃ q, s = .pure q ∧ scal q = true) → pureOf s = some v → VR m v v := by
    intro s hs hp
    have := pureOf_spec hp
    rcases hs with hs | ⟨q, hq, h2⟩
    · exact absurd this (hs _)
    · rw [hq] at this; cases this; exact .of_scal h2
  have hsh : ∀ op', (∀ q, Op.shift op' k x k' y ≠ .pure q) ∨ (∃ q, Op.shift op' k x k' y = .pure q ∧ scal q = true) := by
    intro op'
    unfold Op.shift
    split
    · left; intro q hq; cases hq
    · cases op' <;> first | (right; exact ⟨_, rfl, rfl⟩) | (left; intro q hq; cases hq)
  cases op <;> simp only [binA] at he
  case shl => exact ⟨pureOf_run he w, vr (hsh _) he⟩
  case shr => exact ⟨pureOf_run he w, vr (hsh _) he⟩
  case quo =>
    split at he
    · rename_i e; subst e
      split at he
      · cases he
      · rename_i hz
        simp only [Op.intDiv, if_neg hz] at he
        have := pureOf_spec he
        cases this
        refine ⟨?_, .int _ _⟩
        simp [binOp, Op.intDiv, hz]
    · cases he
  case rem =>
    split at he
    · rename_i e; subst e
      split at he
      · cases he
      · rename_i hz
        simp only [Op.intDiv, if_neg hz] at he
        have := pureOf_spec he
        cases this
        refine ⟨?_, .int _ _⟩
        simp [binOp, Op.intDiv, hz]
    · cases he
  all_goals
    split at he
    · rename_i e; subst e
      have := pureOf_spec he
      first
        | (simp only [Op.intArith] at this; cases this; exact ⟨by simp [binOp, Op.intArith], .int _ _⟩)
        | (simp only [Op.intBits] at this; cases this; exact ⟨by simp [binOp, Op.intBits], .int _ _⟩)
        | (simp only [Op.intCmp] at this; cases this; exact ⟨by simp [binOp, Op.intCmp], .bool _⟩)
    · cases he
theorem bin_string {op : BinOp} {t : TypeId} {x y : ByteArray} {v : Value} {cs : Bool} (he : binA P op t cs (.string x) (.string y) = some v) (w : World) :
    (binOp op t (.string x) (.string y)).run P w = .ok v w ∧ VR m v v := by
  simp only [binA] at he
  have hrun : ∀ op', (binOp op' t (.string x) (.string y)) = Op.stringOp op' x y := by intro op'; cases op' <;> rfl
  rw [hrun]
  refine ⟨pureOf_run he w, ?_⟩
  have := pureOf_spec he
  unfold Op.stringOp at this
  cases op <;> simp only [] at this <;> first
    | (split at this <;> first | (cases this; exact .string _) | cases this)
    | (cases this; exact .bool _)
    | (cases this)
theorem aop_bin {op : BinOp} {t t2 : TypeId} {x y : Operand} (hop : o.op = .binOp op t x y t2) (hr : HR V m h w) (ho : OpdR m σ a o)
    (he : (match opd σ x, opd σ y with | some u, some v => (binA P op t (isC x || isC y) u v).bind (pureR h) | _, _ => none) = some r) : OpRes P a o V m h w r := by
  split at he
  · rename_i u v hx hy
    obtain ⟨q, hq, rfl⟩ := bind_pureR he
    have hu := ho x (by simp [Op.operands, hop]) _ hx
    have hv := ho y (by simp [Op.operands, hop]) _ hy
    have fin : ∀ cq : Value, (eqGuard op t x y (a.eval x) (a.eval y)).run P w = .ok () w → (binOp op t (a.eval x) (a.eval y)).run P w = .ok cq w → VR m q cq → OpRes P a o V m h w ⟨q, h, [], []⟩ := by
      intro cq h1 h2 h3
      refine .pure' hr (cv := cq) ?_ h3
      simp [execOp, hop, h1, h2]
    generalize a.eval x = cx at hu fin
    generalize a.eval y = cy at hv fin
    unfold binA at hq
    split at hq
    case h_1 k n k' n' =>
      have e1 := hu.scal_eq rfl
      have e2 := hv.scal_eq rfl
      have hb := bin_int (P := P) (m := m) (op := op) (t := t) (k := k) (k' := k') (x := n) (y := n') (cs := isC x || isC y) (v := q) (by simpa [binA] using hq) w
      refine fin q ?_ (by rw [e1, e2]; exact hb.1) hb.2
      rw [e1, e2]; exact run_eqGuard_no (by simp) (by simp) w
    case h_2 s s' =>
      have e1 := hu.scal_eq rfl
      have e2 := hv.scal_eq rfl
      have hb := bin_string (P := P) (m := m) (op := op) (t := t) (x := s) (y := s') (cs := isC x || isC y) (v := q) (by simpa [binA] using hq) w
      refine fin q ?_ (by rw [e1, e2]; exact hb.1) hb.2
      rw [e1, e2]; exact run_eqGuard_no (by simp) (by simp) w
    case h_3 b b' =>
      have e1 := hu.scal_eq rfl
      have e2 := hv.scal_eq rfl
      have hg : (eqGuard op t x y (cx) (cy)).run P w = .ok () w := by rw [e1, e2]; exact run_eqGuard_no (by simp) (by simp) w
      split at hq
      · rename_i hu'
        cases hq
        refine fin _ hg ?_ (.bool _)
        rw [e1, e2]; exact binOp_eql (by simp) (by simp) (by simp) (by simp) (eqA_spec (m := m) 20 t _ _ _ _ _ (eqA_bool hu') (.bool _) (.bool _) _ w (by simp [Op.maxDepth]))
      · rename_i hu'
        cases hq
        refine fin _ hg ?_ (.bool _)
        rw [e1, e2]; exact binOp_neq (by simp) (by simp) (by simp) (by simp) (eqA_spec (m := m) 20 t _ _ _ _ _ (eqA_bool hu') (.bool _) (.bool _) _ w (by simp [Op.maxDepth]))
      · cases hq
    case h_4 xs ys =>
      rcases cond_eq_some hq with ⟨_, hq⟩ | ⟨hgt, hq⟩
      · cases hq
      · have hg : (eqGuard op t x y (cx) (cy)).run P w = .ok () w := by
          refine run_eqGuard_no ?_ (fun _ _ _ _ => hgt) w
          intro hh
          rw [hh.1] at hu; cases hu
        have hag : ∃ cxs, cx = .agg cxs := by cases hu; exact ⟨_, rfl⟩
        obtain ⟨cxs, hcx⟩ := hag
        split at hq
        · obtain ⟨b, hb, rfl⟩ := map_bool (f := id) hq
          refine fin (.bool b) hg (binOp_eql (by simp [hcx]) (by simp [hcx]) (by simp [hcx]) (by simp [hcx]) (eqA_spec 20 t _ _ _ _ b hb hu hv _ w (by simp [Op.maxDepth]))) (.bool _)
        · obtain ⟨b, hb, rfl⟩ := map_bool (f := fun b => !b) hq
          refine fin (.bool !b) hg (binOp_neq (by simp [hcx]) (by simp [hcx]) (by simp [hcx]) (by simp [hcx]) (eqA_spec 20 t _ _ _ _ b hb hu hv _ w (by simp [Op.maxDepth]))) (.bool _)
        · cases hq
    case h_5 =>
      rcases cond_eq_some hq with ⟨hc, hq⟩ | ⟨_, hq⟩
      · have e1 : cx = .nilIface := by cases hu; rfl
        have e2 : cy = .nilIface := by cases hv; rfl
        have hg : (eqGuard op t x y (cx) (cy)).run P w = .ok () w := by rw [e1, e2]; exact run_eqGuard_nil hc w
        split at hq
        · obtain ⟨b, hb, rfl⟩ := map_bool (f := id) hq
          refine fin (.bool b) hg (binOp_eql (by simp [e1]) (by simp [e1]) (by simp [e1]) (by simp [e1]) (eqA_spec 20 t _ _ _ _ b hb hu hv _ w (by simp [Op.maxDepth]))) (.bool _)
        · obtain ⟨b, hb, rfl⟩ := map_bool (f := fun b => !b) hq
          refine fin (.bool !b) hg (binOp_neq (by simp [e1]) (by simp [e1]) (by simp [e1]) (by simp [e1]) (eqA_spec 20 t _ _ _ _ b hb hu hv _ w (by simp [Op.maxDepth]))) (.bool _)
        · cases hq
      · cases hq
    case h_6 => cases hq
    case h_7 => cases hq
    case h_8 => cases hq
    case h_9 => cases hq
    case h_10 n1 n2 n3 n4 n5 n6 n7 n8 n9 =>
      have hnn : ¬ (cx = .nilIface ∧ cy = .nilIface) := by
        rintro ⟨h1, h2⟩
        rw [h1] at hu; rw [h2] at hv
        cases hu; cases hv
        exact n9 rfl rfl
      have hna : ∀ xs ys, cx = .agg xs → cy = .agg ys → P.eqGuardType P.depth t = false := by
        intro xs ys h1 h2
        rw [h1] at hu; rw [h2] at hv
        cases hu; cases hv
        exact (n8 _ _ rfl rfl).elim
      have hg : (eqGuard op t x y (cx) (cy)).run P w = .ok () w := run_eqGuard_no hnn hna w
      have key : ∀ b, eqA P 20 t u v = some b → (∀ k n, cx ≠ .int k n) ∧ (∀ s, cx ≠ .string s) ∧ (∀ k n, cx ≠ .float k n) ∧ (∀ k n q, cx ≠ .complex k n q) := by
        intro b hb
        refine ⟨fun k n e => ?_, fun s e => ?_, fun k n e => ?_, fun k n q e => ?_⟩
        · rw [e] at hu; cases hu
          unfold eqA at hb
          split at hb <;> first | (cases hb; done) | exact (n5 _ _ _ _ rfl rfl).elim | exact (n6 _ _ rfl rfl).elim | (exfalso; simp_all; done)
        · rw [e] at hu; cases hu
          unfold eqA at hb
          split at hb <;> first | (cases hb; done) | exact (n5 _ _ _ _ rfl rfl).elim | exact (n6 _ _ rfl rfl).elim | (exfalso; simp_all; done)
        · rw [e] at hu; cases hu
        · rw [e] at hu; cases hu
      split at hq
      · obtain ⟨b, hb, rfl⟩ := map_bool (f := id) hq
        obtain ⟨k1, k2, k3, k4⟩ := key b hb
        exact fin (.bool b) hg (binOp_eql k1 k2 k3 k4 (eqA_spec 20 t _ _ _ _ b hb hu hv _ w (by simp [Op.maxDepth]))) (.bool _)
      · obtain ⟨b, hb, rfl⟩ := map_bool (f := fun b => !b) hq
        obtain ⟨k1, k2, k3, k4⟩ := key b hb
        exact fin (.bool !b) hg (binOp_neq k1 k2 k3 k4 (eqA_spec 20 t _ _ _ _ b hb hu hv _ w (by simp [Op.maxDepth]))) (.bool _)
      · cases hq
  · cases he
end
end Go.GE
