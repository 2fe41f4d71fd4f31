/-
  GE, part 5: conversions, addresses, slices, aggregates.
-/
import Derived.Test.YtkmompbfcgjgmaaE4
set_option autoImplicit false
set_option linter.unusedVariables false
set_option linter.unusedSimpArgs false
namespace Go.GE
variable {P : Program}
section
variable {a : Act} {o : Oper} {V : Nat → Prop} {m : Mp} {σ : Tm} {h : List Blk} {w : World} {r : OR}

theorem aop_nilCheck {x : Operand} (hop : o.op = .nilCheck x) (hr : HR V m h w) (ho : OpdR m σ a o)
    (he : (match opd σ x with
      | some (.pointer (some a)) => pureR h (.pointer (some a))
      | some (.func (.func f) xs ys) => pureR h (.func (.func f) xs ys)
      | some (.func (.yield l) xs ys) => pureR h (.func (.yield l) xs ys)
      | some (.iface t v) => pureR h (.iface t v)
      | _ => none) = some r) : OpRes P a o V m h w r := by
  split at he
  all_goals first
    | (cases he; done)
    | (rename_i hx
       have hv := ho x (by simp [Op.operands, hop]) _ hx
       simp only [pureR, Option.some.injEq] at he
       subst he
       refine .pure' hr (cv := a.eval x) ?_ hv
       generalize hc : a.eval x = cx at hv
       cases hv
       first
         | (simp [execOp, hop, hc]; done)
         | (rename_i hf _ _; cases hf; simp [execOp, hop, hc]))
theorem aop_un {op : UnOp} {t : TypeId} {x : Operand} (hop : o.op = .unOp op t x) (hr : HR V m h w) (ho : OpdR m σ a o)
    (he : (match opd σ x with
      | some (.int k n) => (pureOf (Op.unary op (.int k n))).bind (pureR h)
      | some (.bool b) => (pureOf (Op.unary op (.bool b))).bind (pureR h)
      | _ => none) = some r) : OpRes P a o V m h w r := by
  split at he
  · rename_i k n hx
    obtain ⟨q, hq, rfl⟩ := bind_pureR he
    have e1 := (ho x (by simp [Op.operands, hop]) _ hx).scal_eq rfl
    refine .pure' hr (cv := q) ?_ ?_
    · simp [execOp, hop, e1, pureOf_run hq]
    · have := pureOf_spec hq
      cases op <;> simp only [Op.unary, Op.intArith, Op.intBits] at this <;> first | (cases this; exact .int _ _) | cases this
  · rename_i b hx
    obtain ⟨q, hq, rfl⟩ := bind_pureR he
    have e1 := (ho x (by simp [Op.operands, hop]) _ hx).scal_eq rfl
    refine .pure' hr (cv := q) ?_ ?_
    · simp [execOp, hop, e1, pureOf_run hq]
    · have := pureOf_spec hq
      cases op <;> simp only [Op.unary] at this <;> first | (cases this; exact .bool _) | cases this
  · cases he
theorem aop_makeInterface {t : TypeId} {x : Operand} (hop : o.op = .makeInterface t x) (hr : HR V m h w) (ho : OpdR m σ a o)
    (he : (match P.underlying t, opd σ x with
      | some (.interface _), _ => none
      | some _, some v => pureR h (.iface t v)
      | _, _ => none) = some r) : OpRes P a o V m h w r := by
  split at he
  · cases he
  · rename_i d v hn hd hx
    simp only [pureR, Option.some.injEq] at he
    subst he
    refine .pure' hr (cv := .iface t (a.eval x)) ?_ (.iface t (ho x (by simp [Op.operands, hop]) _ hx))
    simp only [execOp, hop, Instr.makeInterface, Sem.run_bind, run_underlying' hd, Result.andThen_ok]
    cases d <;> first | exact absurd hd (by rw [hd]; exact fun _ => hn _ rfl) | simp
  · cases he
theorem opds_vrl {l : List Operand} {vs : List Value} (hl : ∀ x, x ∈ l → ∀ v, opd σ x = some v → VR m v (a.eval x)) (he : opds σ l = some vs) : VRL m vs (l.map a.eval) := by
  induction l generalizing vs with
  | nil => cases he; exact .nil
  | cons x l ih =>
    obtain ⟨v, vs', h1, h2, rfl⟩ := optAll_cons he
    exact .cons (hl x (by simp) v h1) (ih (fun y hy => hl y (by simp [hy])) h2)
theorem aop_makeFunc {fn : Fn} {xs ys : Array Operand} (hop : o.op = .makeFunc fn xs ys) (hr : HR V m h w) (ho : OpdR m σ a o)
    (he : (match (generalizing := false) fn, opds σ xs.toList, opds σ ys.toList with
      | .func g, some us, some vs => pureR h (.func (.func g) us.toArray vs.toArray)
      | _, _, _ => none) = some r) : OpRes P a o V m h w r := by
  split at he
  · rename_i g us vs hu hv
    simp only [pureR, Option.some.injEq] at he
    subst he
    refine .pure' hr (cv := .func (.func g) (xs.map a.eval) (ys.map a.eval)) (by simp [execOp, hop, Instr.makeFunc]) (.func (.func g) ?_ ?_)
    · simpa using opds_vrl (a := a) (fun x hx => ho x (by simp [Op.operands, hop] at hx ⊢; exact .inl hx)) hu
    · simpa using opds_vrl (a := a) (fun x hx => ho x (by simp [Op.operands, hop] at hx ⊢; exact .inr hx)) hv
  · cases he
theorem aop_fieldAddr {t : TypeId} {x : Operand} {i : Nat} (hop : o.op = .fieldAddr t x i) (hr : HR V m h w) (ho : OpdR m σ a o)
    (he : (match opd σ x, fieldOf P t i with
      | some (.pointer (some ⟨b, off, none⟩)), some f => match aggSize P f.type with
        | some s => if s = 0 then none else pureR h (.pointer (some ⟨b, off + f.offset, none⟩))
        | none => none
      | _, _ => none) = some r) : OpRes P a o V m h w r := by
  split at he
  · rename_i b off f hx hf
    split at he
    · rename_i s hs
      split at he
      · cases he
      · rename_i hs0
        simp only [pureR, Option.some.injEq] at he
        subst he
        obtain ⟨mb, hm, hcv⟩ := vr_ptr_inv (ho x (by simp [Op.operands, hop]) _ hx)
        obtain ⟨fi, hfi, rfl⟩ := aggSize_spec hs
        unfold fieldOf at hf
        split at hf
        · rename_i fs hu
          refine .pure' hr (cv := .pointer (some ⟨mb.blk, mb.sh + (off + f.offset), none⟩)) ?_ (.ptr hm)
          simp only [execOp, hop, Instr.fieldAt, Sem.run_bind, run_underlying' hu, Result.andThen_ok, hf, hcv, Instr.sureAddr, Sem.run_pure, fieldPlace, run_sizeOf' hfi, if_neg hs0, add_none]
          simp [Nat.add_assoc]
        · cases hf
    · cases he
  · cases he
theorem aop_field {t : TypeId} {x : Operand} {i : Nat} (hop : o.op = .field t x i) (hr : HR V m h w) (ho : OpdR m σ a o)
    (he : (match opd σ x, fieldOf P t i with
      | some (.agg cs), some f => (partA P f.type cs f.offset).bind (pureR h)
      | _, _ => none) = some r) : OpRes P a o V m h w r := by
  split at he
  · rename_i cs f hx hf
    obtain ⟨q, hq, rfl⟩ := bind_pureR he
    have hv := ho x (by simp [Op.operands, hop]) _ hx
    generalize hc : a.eval x = cx at hv
    cases hv with
    | agg hl =>
      rename_i ccs
      obtain ⟨cv, h1, h2⟩ := part_spec (P := P) hl hq w
      unfold fieldOf at hf
      split at hf
      · rename_i fs hu
        refine .pure' hr (cv := cv) ?_ h2
        simp [execOp, hop, Instr.field, run_underlying' hu, hf, hc, asAgg, h1]
      · cases hf
  · cases he
theorem vr_slice_inv {b off n c : Nat} {cv : Value} (hv : VR m (.slice (some ⟨b, off, none⟩) n c) cv) : (n = 0 ∧ c = 0 ∧ cv = .slice none 0 0) ∨
    ∃ mb co cc, m b = some mb ∧ (c ≠ 0 → co = mb.sh + off) ∧ n ≤ c ∧ c ≤ cc ∧ (mb.own = true → co + cc * mb.esz ≤ mb.ext) ∧ cv = .slice (some ⟨mb.blk, co, none⟩) n cc := by
  cases hv with
  | slice h1 h2 h3 h4 h5 => exact .inr ⟨_, _, _, h1, h2, h3, h4, h5, rfl⟩
  | nil0 => exact .inl ⟨rfl, rfl, rfl⟩
theorem aop_indexAddr {t : TypeId} {x y : Operand} (hop : o.op = .indexAddr t x y) (hr : HR V m h w) (ho : OpdR m σ a o)
    (he : (match P.underlying t, opd σ x, opd σ y with
      | some (.array n e), some (.pointer (some ⟨b, off, none⟩)), some (.int _ k) => match aggSize P e with
        | some s => if 0 ≤ k ∧ k < n then pureR h (.pointer (some ⟨b, off + k.toNat * s, none⟩)) else none
        | none => none
      | some (.slice e), some (.slice (some ⟨b, off, none⟩) n _), some (.int _ k) => match aggSize P e with
        | some s => if 0 ≤ k ∧ k < n then pureR h (.pointer (some ⟨b, off + k.toNat * s, none⟩)) else none
        | none => none
      | _, _, _ => none) = some r) : OpRes P a o V m h w r := by
  split at he
  · rename_i n e b off kk k hu hx hy
    split at he
    · rename_i s hs
      split at he
      · rename_i hk
        simp only [pureR, Option.some.injEq] at he
        subst he
        obtain ⟨mb, hm, hcv⟩ := vr_ptr_inv (ho x (by simp [Op.operands, hop]) _ hx)
        have e2 := (ho y (by simp [Op.operands, hop]) _ hy).scal_eq rfl
        obtain ⟨fi, hfi, rfl⟩ := aggSize_spec hs
        refine .pure' hr (cv := .pointer (some ⟨mb.blk, mb.sh + (off + k.toNat * fi.size), none⟩)) ?_ (.ptr hm)
        simp only [execOp, hop, Instr.indexAt, e2, asIntOf, Sem.run_bind, Sem.run_pure, run_underlying' hu, Result.andThen_ok, hcv, Instr.sureAddr, run_sizeOf' hfi, add_none, if_pos hk, Nat.add_assoc]
      · cases he
    · cases he
  · rename_i e b off n c kk k hu hx hy
    split at he
    · rename_i s hs
      split at he
      · rename_i hk
        simp only [pureR, Option.some.injEq] at he
        subst he
        rcases vr_slice_inv (ho x (by simp [Op.operands, hop]) _ hx) with ⟨z1, _, _⟩ | ⟨mb, co, cc, hm, h1, h2, h3, h4, hcv⟩
        · exact absurd hk.2 (by omega)
        have e2 := (ho y (by simp [Op.operands, hop]) _ hy).scal_eq rfl
        obtain ⟨fi, hfi, rfl⟩ := aggSize_spec hs
        have hco := h1 (by omega)
        subst hco
        refine .pure' hr (cv := .pointer (some ⟨mb.blk, mb.sh + (off + k.toNat * fi.size), none⟩)) ?_ (.ptr hm)
        simp only [execOp, hop, Instr.indexAt, e2, asIntOf, Sem.run_bind, Sem.run_pure, run_underlying' hu, Result.andThen_ok, hcv, run_sizeOf' hfi, add_none, if_pos hk, Nat.add_assoc]
      · cases he
    · cases he
  · cases he
theorem aop_index {t : TypeId} {x y : Operand} (hop : o.op = .index t x y) (hr : HR V m h w) (ho : OpdR m σ a o)
    (he : (match P.underlying t, opd σ x, opd σ y with
      | some (.array n e), some (.agg cs), some (.int _ k) => match aggSize P e with
        | some s => if 0 ≤ k ∧ k < n then (partA P e cs (k.toNat * s)).bind (pureR h) else none
        | none => none
      | some .string, some (.string s), some (.int _ k) => if 0 ≤ k then match s[k.toNat]? with
          | some c => pureR h (.int .u8 c.toNat)
          | none => none
        else none
      | _, _, _ => none) = some r) : OpRes P a o V m h w r := by
  split at he
  · rename_i n e cs kk k hu hx hy
    split at he
    · rename_i s hs
      split at he
      · rename_i hk
        obtain ⟨q, hq, rfl⟩ := bind_pureR he
        have hv := ho x (by simp [Op.operands, hop]) _ hx
        have e2 := (ho y (by simp [Op.operands, hop]) _ hy).scal_eq rfl
        obtain ⟨fi, hfi, rfl⟩ := aggSize_spec hs
        generalize hc : a.eval x = cx at hv
        cases hv with
        | agg hl =>
          obtain ⟨cv, h1, h2⟩ := part_spec (P := P) hl hq w
          refine .pure' hr (cv := cv) ?_ h2
          simp only [execOp, hop, Instr.index, e2, asIntOf, Sem.run_bind, Sem.run_pure, run_underlying' hu, Result.andThen_ok, hc, run_sizeOf' hfi, if_pos hk, h1]
      · cases he
    · cases he
  · rename_i s kk k hu hx hy
    split at he
    · rename_i hk
      split at he
      · rename_i c hc
        simp only [pureR, Option.some.injEq] at he
        subst he
        have e1 := (ho x (by simp [Op.operands, hop]) _ hx).scal_eq rfl
        have e2 := (ho y (by simp [Op.operands, hop]) _ hy).scal_eq rfl
        refine .pure' hr (cv := .int .u8 c.toNat) ?_ (.int _ _)
        simp only [execOp, hop, Instr.index, e1, e2, asIntOf, Sem.run_bind, Sem.run_pure, run_underlying' hu, Result.andThen_ok, if_pos hk, hc]
      · cases he
    · cases he
  · cases he
theorem aop_extract {x : Operand} {i : Nat} (hop : o.op = .extract x i) (hr : HR V m h w) (ho : OpdR m σ a o)
    (he : (match opd σ x with | some (.tuple vs) => (vs[i]?).bind (pureR h) | _ => none) = some r) : OpRes P a o V m h w r := by
  split at he
  · rename_i vs hx
    obtain ⟨q, hq, rfl⟩ := bind_pureR he
    have hv := ho x (by simp [Op.operands, hop]) _ hx
    generalize hc : a.eval x = cx at hv
    cases hv with
    | tuple hl =>
      rename_i cvs
      obtain ⟨cv, h1, h2⟩ := hl.get i q (by simpa using hq)
      have h1' : cvs[i]? = some cv := by simpa using h1
      refine .pure' hr (cv := cv) ?_ h2
      simp [execOp, hop, Instr.extract, hc, h1']
  · cases he
theorem aop_typeAssert {x : Operand} {t1 t : TypeId} {ok : Bool} (hop : o.op = .typeAssert x t1 t ok) (hr : HR V m h w) (ho : OpdR m σ a o)
    (he : (match P.underlying t, opd σ x, zeroA P t with
      | some (.interface _), _, _ => none
      | some _, some .nilIface, some z => if ok then pureR h (.tuple #[z, .bool false]) else none
      | some _, some (.iface u v), some z =>
        if u = t then pureR h (if ok then .tuple #[v, .bool true] else v) else if ok then pureR h (.tuple #[z, .bool false]) else none
      | _, _, _ => none) = some r) : OpRes P a o V m h w r := by
  split at he
  · cases he
  · rename_i d z hn hd hx hz
    split at he
    · rename_i hok
      subst hok
      simp only [pureR, Option.some.injEq] at he
      subst he
      have hv := ho x (by simp [Op.operands, hop]) _ hx
      obtain ⟨⟨i, h1, h2⟩, h3⟩ := zeroA_spec hz
      generalize hc : a.eval x = cx at hv
      cases hv
      refine .pure' hr (cv := .tuple #[z, .bool false]) ?_ (.tuple (.cons (.const h3) (.cons (.bool _) .nil)))
      simp only [execOp, hop, Instr.typeAssert, hc, Sem.run_bind, run_underlying' hd, Result.andThen_ok]
      cases d <;> first | exact absurd hd (by rw [hd]; exact fun _ => hn _ rfl) | simp [run_zeroValue' h1 h2]
    · cases he
  · rename_i d u v z hn hd hx hz
    have hv := ho x (by simp [Op.operands, hop]) _ hx
    obtain ⟨⟨i, h1, h2⟩, h3⟩ := zeroA_spec hz
    generalize hc : a.eval x = cx at hv
    cases hv with
    | iface _ hvv =>
      rename_i cv
      split at he
      · rename_i hut
        subst hut
        simp only [pureR, Option.some.injEq] at he
        subst he
        refine .pure' hr (cv := if ok then .tuple #[cv, .bool true] else cv) ?_ ?_
        · simp only [execOp, hop, Instr.typeAssert, hc, Sem.run_bind, run_underlying' hd, Result.andThen_ok]
          cases d <;> first | exact absurd hd (by rw [hd]; exact fun _ => hn _ rfl) | simp
        · cases ok
          · exact hvv
          · exact .tuple (.cons hvv (.cons (.bool _) .nil))
      · rename_i hut
        split at he
        · rename_i hok
          subst hok
          simp only [pureR, Option.some.injEq] at he
          subst he
          refine .pure' hr (cv := .tuple #[z, .bool false]) ?_ (.tuple (.cons (.const h3) (.cons (.bool _) .nil)))
          simp only [execOp, hop, Instr.typeAssert, hc, Sem.run_bind, run_underlying' hd, Result.andThen_ok]
          cases d <;> first | exact absurd hd (by rw [hd]; exact fun _ => hn _ rfl) | simp [hut, run_zeroValue' h1 h2]
        · cases he
  · cases he

/-! ### aggregates -/
def PsR (m : Mp) (ps cps : List (Nat × Value)) : Prop := cps.length = ps.length ∧ ∀ (i k : Nat) (v : Value), ps[i]? = some (k, v) → ∃ cv, cps[i]? = some (k, cv) ∧ VR m v cv
theorem fill_inner {m : Mp} {off : Nat} : ∀ (l cl : List (Value × Nat)) (cs ccs : Array Value), cl.length = l.length → (∀ (i : Nat) (v : Value) (k : Nat), l[i]? = some (v, k) → ∃ cv, cl[i]? = some (cv, k) ∧ VR m v cv) →
    VRL m cs.toList ccs.toList → VRL m (l.foldl (fun cs p => cs.setIfInBounds (off + p.2) p.1) cs).toList (cl.foldl (fun cs p => cs.setIfInBounds (off + p.2) p.1) ccs).toList := by
  intro l
  induction l with
  | nil => intro cl cs ccs hl _ h; have : cl = [] := by simpa using hl
           subst this; exact h
  | cons p l ih =>
    intro cl cs ccs hl hp h
    obtain ⟨v, k⟩ := p
    cases cl with
    | nil => simp at hl
    | cons q cl =>
      obtain ⟨cv, h1, h2⟩ := hp 0 v k rfl
      simp at h1
      subst h1
      refine ih cl _ _ (by simpa using hl) (fun i u k' hi => by simpa using hp (i + 1) u k' (by simpa using hi)) ?_
      have hlen := h.length
      refine .of_get (by simpa using hlen) fun i u hi => ?_
      simp only [Array.toList_setIfInBounds, List.getElem?_set] at hi ⊢
      split at hi
      · rename_i e
        rw [if_pos e]
        split at hi
        · rename_i hlt
          rw [if_pos (by rw [hlen]; exact hlt)]
          cases hi
          exact ⟨cv, rfl, h2⟩
        · cases hi
      · rename_i e
        rw [if_neg e]
        exact h.get i u hi
theorem fill_spec {m : Mp} {place : Nat → Option (Nat × Nat)} : ∀ (ps cps : List (Nat × Value)) (cs ccs : Array Value) (out : Array Value), PsR m ps cps → VRL m cs.toList ccs.toList → Instr.fill place cs ps = some out →
    ∃ cout, Instr.fill place ccs cps = some cout ∧ VRL m out.toList cout.toList := by
  intro ps
  induction ps with
  | nil =>
    intro cps cs ccs out hp h hf
    have : cps = [] := by simpa using hp.1
    subst this
    simp only [Instr.fill] at hf
    cases hf
    exact ⟨ccs, rfl, h⟩
  | cons p ps ih =>
    intro cps cs ccs out hp h hf
    obtain ⟨k, v⟩ := p
    cases cps with
    | nil => simp [PsR] at hp
    | cons q cps =>
      obtain ⟨cv, h1, h2⟩ := hp.2 0 k v rfl
      simp at h1
      subst h1
      simp only [Instr.fill] at hf ⊢
      split at hf
      · cases hf
      · rename_i off size hpl
        split at hf
        · cases hf
        · rename_i hc
          have hlen := h.length
          simp only [Array.length_toList] at hlen
          rw [if_neg (by rw [h2.tmps, hlen]; exact hc)]
          refine ih cps _ _ out ⟨by simpa using hp.1, fun i k' u hi => by simpa using hp.2 (i + 1) k' u (by simpa using hi)⟩ ?_ hf
          rw [← Array.foldl_toList, ← Array.foldl_toList]
          refine fill_inner _ _ cs ccs (by simp [h2.tmps]) (fun i u k' hi => ?_) h
          simp only [Array.toList_zipIdx, List.getElem?_zipIdx, Option.map_eq_some_iff] at hi ⊢
          obtain ⟨u', h3, h4⟩ := hi
          obtain ⟨cu, h5, h6⟩ := h2.cells.get i u' h3
          cases h4
          exact ⟨cu, ⟨cu, h5, rfl⟩, h6⟩
theorem parts_psr {ps : List (Nat × Operand)} {qs : List (Nat × Value)} (hl : ∀ p, p ∈ ps → ∀ v, opd σ p.2 = some v → VR m v (a.eval p.2)) (he : optAll (fun p : Nat × Operand => (opd σ p.2).map fun v => (p.1, v)) ps = some qs) :
    PsR m qs (ps.map fun p => (p.1, a.eval p.2)) := by
  refine ⟨by simp [optAll_length he], fun i k v hi => ?_⟩
  obtain ⟨p, h1, h2⟩ := optAll_get' he i (k, v) hi
  simp only [Option.map_eq_some_iff] at h2
  obtain ⟨u, h3, h4⟩ := h2
  cases h4
  refine ⟨a.eval p.2, by simp [h1], hl p (List.mem_of_getElem? h1) _ h3⟩
theorem run_mapM_list {α β : Type} {f : α → Sem β} {g : α → Option β} : ∀ (l : List α) (out : List β) (w : World), optAll g l = some out → (∀ x y, x ∈ l → g x = some y → (f x).run P w = .ok y w) → (l.mapM f).run P w = .ok out w := by
  intro l
  induction l with
  | nil => intro out w h _; cases h; simp
  | cons x l ih =>
    intro out w h hf
    obtain ⟨y, out', h1, h2, rfl⟩ := optAll_cons h
    simp only [List.mapM_cons, Sem.run_bind, hf x y (by simp) h1, Result.andThen_ok, ih out' w h2 (fun a b ha hb => hf a b (by simp [ha]) hb), Sem.run_pure]
theorem run_mapM_array {α β : Type} {f : α → Sem β} {g : α → Option β} (l : Array α) (out : List β) (w : World) (h : optAll g l.toList = some out) (hf : ∀ x y, x ∈ l.toList → g x = some y → (f x).run P w = .ok y w) :
    (l.mapM f).run P w = .ok out.toArray w := by
  rw [Array.mapM_eq_mapM_toList]
  simp only [Sem.run_map, run_mapM_list l.toList out w h hf, Result.andThen_ok]
theorem vrl_range {n : Nat} {z : Array Value} (hz : constOk (.agg z) = true ∨ ∀ v, v ∈ z.toList → VR m v v) (i : Nat) : True := trivial
theorem zero_cells {z : Value} (hz : constOk z = true) : VRL m z.cells.toList z.cells.toList := (VR.const hz).cells
theorem get!_vr {xs : Array Value} (h : VRL m xs.toList xs.toList) (hd : VR m (default : Value) default) (i : Nat) : VR m xs[i]! xs[i]! := by
  rcases Nat.lt_or_ge i xs.size with hlt | hge
  · obtain ⟨cv, h1, h2⟩ := h.get i xs[i] (by simp [hlt])
    have : cv = xs[i] := by simpa [hlt] using h1.symm
    subst this
    simpa [getElem!_pos xs i hlt] using h2
  · have : xs[i]! = default := by simp [getElem!_neg xs i (by omega)]
    rw [this]; exact hd
theorem default_vr : VR m (default : Value) default := by
  show VR m (.bool default) (.bool default)
  exact .bool _
theorem range_map_vrl {n : Nat} {f : Nat → Value} (hf : ∀ i, VR m (f i) (f i)) : VRL m ((Array.range n).map f).toList ((Array.range n).map f).toList := by
  refine .of_get rfl fun i v hi => ⟨v, hi, ?_⟩
  simp only [Array.toList_map, Array.toList_range, List.getElem?_map, Option.map_eq_some_iff] at hi
  obtain ⟨k, _, rfl⟩ := hi
  exact hf k
theorem aop_build {t : TypeId} {parts : Array (Nat × Operand)} (hop : o.op = .build t parts) (hr : HR V m h w) (ho : OpdR m σ a o)
    (he : (match zeroA P t, P.underlying t, optAll (fun p : Nat × Operand => (opd σ p.2).map fun v => (p.1, v)) parts.toList with
    | some z, some d, some ps => match d with
      | .struct fs => match optAll (fun f : Field => (aggSize P f.type).map fun s => (f.offset, s)) fs.toList with
        | some places => (Instr.fill (places[·]?) z.cells ps).bind fun cs => pureR h (.agg cs)
        | none => none
      | .array _ e => match aggSize P e with
        | some s => (Instr.fill (fun i => some (i * s, s)) z.cells ps).bind fun cs => pureR h (.agg cs)
        | none => none
      | _ => none
    | _, _, _ => none) = some r) : OpRes P a o V m h w r := by
  split at he
  · rename_i z d ps hz hd hps
    obtain ⟨⟨i, h1, h2⟩, h3⟩ := zeroA_spec hz
    have hpr : PsR m ps (parts.toList.map fun p => (p.1, a.eval p.2)) := parts_psr (fun p hp => ho p.2 (by simp only [Op.operands, hop, List.mem_map]; exact ⟨p, hp, rfl⟩)) hps
    have hpr' : (parts.map fun (x : Nat × Operand) => (x.1, a.eval x.2)).toList = parts.toList.map fun p => (p.1, a.eval p.2) := by simp
    split at he
    · rename_i fs
      split at he
      · rename_i places hpl
        cases hf : Instr.fill (places[·]?) z.cells ps with
        | none => rw [hf] at he; cases he
        | some cs =>
          rw [hf] at he
          simp only [Option.bind_some, pureR, Option.some.injEq] at he
          subst he
          obtain ⟨cout, h5, h6⟩ := fill_spec ps _ _ _ cs hpr (zero_cells h3) hf
          refine .pure' hr (cv := .agg cout) ?_ (.agg h6)
          have hmm : (fs.mapM fun f => do pure (f.offset, ← sizeOf f.type) : Sem (Array (Nat × Nat))).run P w = .ok places.toArray w :=
            run_mapM_array fs places w hpl fun f y _ hy => by
              simp only [Option.map_eq_some_iff] at hy
              obtain ⟨s, hs, rfl⟩ := hy
              obtain ⟨fi, hfi, rfl⟩ := aggSize_spec hs
              simp [run_sizeOf' hfi]
          simp only [execOp, hop, Instr.build, Sem.run_bind, run_zeroValue' h1 h2, run_underlying' hd, Result.andThen_ok, hmm, Sem.run_pure]
          simp only [List.getElem?_toArray, hpr', h5, Sem.run_pure, Result.andThen_ok]
      · cases he
    · rename_i n e
      split at he
      · rename_i s hs
        cases hf : Instr.fill (fun i => some (i * s, s)) z.cells ps with
        | none => rw [hf] at he; cases he
        | some cs =>
          rw [hf] at he
          simp only [Option.bind_some, pureR, Option.some.injEq] at he
          subst he
          obtain ⟨fi, hfi, rfl⟩ := aggSize_spec hs
          obtain ⟨cout, h5, h6⟩ := fill_spec ps _ _ _ cs hpr (zero_cells h3) hf
          refine .pure' hr (cv := .agg cout) ?_ (.agg h6)
          simp only [execOp, hop, Instr.build, Sem.run_bind, run_zeroValue' h1 h2, run_underlying' hd, Result.andThen_ok, run_sizeOf' hfi, Sem.run_pure]
          simp only [hpr', h5, Sem.run_pure, Result.andThen_ok]
      · cases he
    · cases he
  · cases he
theorem aop_buildSlice {t : TypeId} {len : Nat} {parts : Array (Nat × Operand)} (hop : o.op = .buildSlice t len parts) (hr : HR V m h w) (ho : OpdR m σ a o)
    (he : (match P.underlying t, optAll (fun p : Nat × Operand => (opd σ p.2).map fun v => (p.1, v)) parts.toList with
    | some (.slice e), some ps => match aggSize P e, zeroA P e with
      | some s, some z => if len * s ≤ 2 ^ 24 then
          match Instr.fill (fun i => some (i * s, s)) ((Array.range (len * s)).map ((if len * s = 0 then #[] else z.cells)[· % (if len * s = 0 then #[] else z.cells).size]!)) ps with
          | some cs => allocR h (mkCells cs.toList s) fun b => .slice (some ⟨b, 0, none⟩) len len
          | none => none
        else none
      | _, _ => none
    | _, _ => none) = some r) : OpRes P a o V m h w r := by
  split at he
  · rename_i e ps hu hps
    split at he
    · rename_i s z hs hz
      split at he
      · rename_i hlim
        split at he
        · rename_i cs hf
          simp only [allocR, Option.some.injEq] at he
          subst he
          obtain ⟨⟨i, h1, h2⟩, h3⟩ := zeroA_spec hz
          obtain ⟨fi, hfi, rfl⟩ := aggSize_spec hs
          have hpr : PsR m ps (parts.toList.map fun p => (p.1, a.eval p.2)) := parts_psr (fun p hp => ho p.2 (by simp only [Op.operands, hop, List.mem_map]; exact ⟨p, hp, rfl⟩)) hps
          have hpr' : (parts.map fun (x : Nat × Operand) => (x.1, a.eval x.2)).toList = parts.toList.map fun p => (p.1, a.eval p.2) := by simp
          have hz0 : VRL m (if len * fi.size = 0 then #[] else z.cells).toList (if len * fi.size = 0 then #[] else z.cells).toList := by
            split
            · exact .nil
            · exact zero_cells h3
          obtain ⟨cout, h5, h6⟩ := fill_spec (m := m) ps _ _ _ cs hpr (range_map_vrl fun i => get!_vr hz0 default_vr _) hf
          refine OpRes.row hr (e := fi.size) (mk := fun b => .slice (some ⟨b, 0, none⟩) len len) (cmk := fun b => .slice (some ⟨b, 0, none⟩) len len) (cc := cout) (ct := e) (fz := (0, 0)) (w' := { w with heap := w.heap.push (.cells cout e) }) h6 (fun h => h) rfl (fun o ho => by simp) (fun m' hm => ?_) ?_
          · have hsz : cout.size = len * fi.size := by
              have g : ∀ (ps : List (Nat × Value)) (cs out : Array Value), Instr.fill (fun i => some (i * fi.size, fi.size)) cs ps = some out → out.size = cs.size := by
                intro ps
                induction ps with
                | nil => intro cs out h; simp only [Instr.fill] at h; cases h; rfl
                | cons p ps ih =>
                  intro cs out h
                  obtain ⟨k, v⟩ := p
                  simp only [Instr.fill] at h
                  split at h
                  · cases h
                  · rw [ih _ _ h]
                    rw [← Array.foldl_toList]
                    have g2 : ∀ (l : List (Value × Nat)) (cs : Array Value), (l.foldl (fun cs p => cs.setIfInBounds (k * fi.size + p.2) p.1) cs).size = cs.size := by
                      intro l
                      induction l with
                      | nil => intro cs; rfl
                      | cons q l ihl => intro cs; simp only [List.foldl_cons]; rw [ihl]; simp
                    exact g2 _ _
              rw [g _ _ _ h5]; simp
            have := VR.slice (m := m') (o := 0) (l := len) (c := len) (co := 0) (cc := len) hm (by simp) (Nat.le_refl _) (Nat.le_refl _) (by simp [hsz])
            exact this
          · have hlim' : ¬ (len * fi.size > 2 ^ 24) := by omega
            simp only [execOp, hop, Instr.buildSlice, Sem.run_bind, run_underlying' hu, Result.andThen_ok, run_sizeOf' hfi, if_neg hlim', Sem.run_pure, Sem.run_ite]
            by_cases h0 : len * fi.size = 0
            · simp only [h0, if_true, Result.andThen_ok] at h5 ⊢
              simp only [hpr', h5, Sem.run_bind, newRow, run_newObj, Result.andThen_ok, Sem.run_pure]
            · simp only [if_neg h0, Result.andThen_ok, run_zeroValue' h1 h2, Sem.run_bind, Sem.run_pure] at h5 ⊢
              simp only [hpr', h5, Sem.run_bind, newRow, run_newObj, Result.andThen_ok, Sem.run_pure]
        · cases he
      · cases he
    · cases he
  · cases he
end
end Go.GE
