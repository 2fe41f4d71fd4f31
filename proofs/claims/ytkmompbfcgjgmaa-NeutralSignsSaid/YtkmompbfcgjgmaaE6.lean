/-
  GE, part 6: conversions, slices, strings, make.
-/
import Derived.Test.YtkmompbfcgjgmaaE5
set_option autoImplicit false
set_option linter.unusedVariables false
set_option linter.unusedSimpArgs false
namespace Go.GE
variable {P : Program}
section
variable {a : Act} {o : Oper} {V : Nat → Prop} {m : Mp} {σ : Tm} {h : List Blk} {w : World} {r : OR}

theorem modify_push {xs : Array Obj} {o : Obj} {f : Obj → Obj} : (xs.push o).modify xs.size f = xs.push (f o) := by
  apply Array.ext
  · simp
  · intro i h1 h2
    simp only [Array.size_push] at h2
    rw [Array.getElem_modify]
    by_cases hi : i = xs.size
    · subst hi; simp
    · rw [if_neg (Ne.symm hi)]
      rw [Array.getElem_push_lt (by omega), Array.getElem_push_lt (by omega)]
theorem cellsOfBytes_all (s : ByteArray) : (cellsOfBytes s).all scal = true := by
  unfold cellsOfBytes
  refine List.all_eq_true.2 fun v hv => ?_
  obtain ⟨b, _, rfl⟩ := List.mem_map.1 hv
  rfl
theorem bytes_loop {l : List Value} {bs : List UInt8} (hb : bytesOf l = some bs) : ∀ (s : ByteArray) (w : World),
    (forIn l s (fun c s => match c with
      | .int .u8 n => pure (ForInStep.yield (s.push (UInt8.ofNat n.toNat)))
      | _ => do
        stuck "bytesToString: byte expected"
        pure (ForInStep.yield s) : Value → ByteArray → Sem (ForInStep ByteArray))).run P w = .ok ⟨s.data ++ bs.toArray⟩ w := by
  induction l generalizing bs with
  | nil => intro s w; cases hb; simp
  | cons c l ih =>
    intro s w
    unfold bytesOf at hb
    split at hb
    · rename_i e; cases e
    · rename_i n r e
      cases e
      simp only [Option.map_eq_some_iff] at hb
      obtain ⟨bs', h1, rfl⟩ := hb
      simp only [List.forIn_cons, Sem.run_bind, Sem.run_pure, Result.andThen_ok]
      rw [ih h1]
      simp [ByteArray.push]
    · cases hb
theorem bytesOf_scal {l : List Value} {bs : List UInt8} (hb : bytesOf l = some bs) : l.all scal = true := by
  induction l generalizing bs with
  | nil => rfl
  | cons c l ih =>
    unfold bytesOf at hb
    split at hb
    · rename_i e; cases e
    · rename_i n r e
      cases e
      simp only [Option.map_eq_some_iff] at hb
      obtain ⟨bs', h1, rfl⟩ := hb
      simp [scal, ih h1]
    · cases hb
theorem vrl_scal_eq {l cl : List Value} (h : VRL m l cl) (hs : l.all scal = true) : cl = l := by
  induction l generalizing cl with
  | nil => cases h; rfl
  | cons x l ih =>
    cases h with
    | cons h1 h2 =>
      simp only [List.all_cons, Bool.and_eq_true] at hs
      rw [h1.scal_eq hs.1, ih h2 hs.2]

theorem aop_convert {src dst : TypeId} {x : Operand} (hop : o.op = .convert src dst x) (hr : HR V m h w) (ho : OpdR m σ a o)
    (he : (match P.underlying src, P.underlying dst, opd σ x with
    | some _, some (.int k), some (.int _ n) => pureR h (.int k (k.wrap n))
    | some .string, some .string, some (.string s) => pureR h (.string s)
    | some .string, some (.slice e), some (.string s) => match P.underlying e with
      | some (.int .u8) => allocR h (.cells (cellsOfBytes s) 1 true true) fun b => .slice (some ⟨b, 0, none⟩) s.size s.size
      | _ => none
    | some (.slice e), some .string, some (.slice none 0 0) => match P.underlying e with
      | some (.int .u8) => pureR h (.string .empty)
      | _ => none
    | some (.slice e), some .string, some (.slice (some ⟨b, off, none⟩) n _) => match P.underlying e with
      | some (.int .u8) => match n with
        | 0 => pureR h (.string .empty)
        | _ => match cellsAt h b with
          | some cs => match rdN cs off n with
            | some l => (bytesOf l).map fun bs => (⟨.string ⟨bs.toArray⟩, h, [b], []⟩ : OR)
            | none => none
          | none => none
      | _ => none
    | _, _, _ => none) = some r) (hrd : ∀ b, b ∈ r.rd → V b) : OpRes P a o V m h w r := by
  split at he
  · rename_i d1 k k' n h1 h2 hx
    simp only [pureR, Option.some.injEq] at he
    subst he
    have e1 := (ho x (by simp [Op.operands, hop]) _ hx).scal_eq rfl
    refine .pure' hr (cv := .int k (k.wrap n)) ?_ (.int _ _)
    simp [execOp, hop, e1, convert, run_underlying' h1, run_underlying' h2, Conv.intToInt]
  · rename_i s h1 h2 hx
    simp only [pureR, Option.some.injEq] at he
    subst he
    have e1 := (ho x (by simp [Op.operands, hop]) _ hx).scal_eq rfl
    refine .pure' hr (cv := .string s) ?_ (.string _)
    simp [execOp, hop, e1, convert, run_underlying' h1, run_underlying' h2]
  · rename_i e s h1 h2 hx
    split at he
    · rename_i h3
      simp only [allocR, Option.some.injEq] at he
      subst he
      have e1 := (ho x (by simp [Op.operands, hop]) _ hx).scal_eq rfl
      have hq : (Question.appendCap s.size 0 e).forced = false := rfl
      generalize hcap : (Question.appendCap s.size 0 e).cut (w.tape w.drawn (.appendCap s.size 0 e)) = cap
      have hge : s.size ≤ cap := by rw [← hcap]; simp [Question.cut]
      generalize hccd : (s.data.map (fun b : UInt8 => Value.int .u8 (b.toNat : Int)) ++ Array.replicate (cap - s.size) (Value.int .u8 0)) = cc
      have hsd : s.data.size = s.size := rfl
      have hcs : cc.size = cap := by rw [← hccd]; simp only [Array.size_append, Array.size_map, Array.size_replicate, hsd]; omega
      refine OpRes.rowX hr (vs := cellsOfBytes s) (e := 1) (flat := true) (mk := fun b => .slice (some ⟨b, 0, none⟩) s.size s.size) (cmk := fun b => .slice (some ⟨b, 0, none⟩) s.size cap)
        (cc := cc) (ct := e) (fz := (cc.size, cc.size + 1)) (w' := { w with heap := w.heap.push (.cells cc e (cc.size, cc.size + 1)), drawn := w.drawn + 1 }) ?_ ?_ ?_ ?_ ?_ ?_ ?_
      · rw [hcs]; simp [cellsOfBytes]; exact hge
      · intro i v hi
        refine ⟨v, ?_, .of_scal (List.all_eq_true.1 (cellsOfBytes_all s) v (List.mem_of_getElem? hi))⟩
        simp only [cellsOfBytes, List.getElem?_map, Option.map_eq_some_iff] at hi
        obtain ⟨b, hb, rfl⟩ := hi
        have hb' : s.data[i]? = some b := by simpa using hb
        have hi2 : i < s.data.size := (Array.getElem?_eq_some_iff.1 hb').1
        rw [← hccd, Array.getElem?_append_left (by simpa using hi2), Array.getElem?_map, hb']
        rfl
      · exact fun _ => cellsOfBytes_all s
      · rfl
      · intro o ho; omega
      · intro m' hm
        have := VR.slice (m := m') (o := 0) (l := s.size) (c := s.size) (co := 0) (cc := cap) hm (by simp) (Nat.le_refl _) hge (by simp [hcs])
        exact this
      · have hfz : ∀ w0 : World, w0.heap = w.heap.push (.cells cc e) → w0.freeze ⟨w.heap.size, cc.size, none⟩ 1 = { w0 with heap := w.heap.push (.cells cc e (cc.size, cc.size + 1)) } := by
          intro w0 hw0
          simp only [World.freeze, hw0]
          rw [if_neg (by omega), modify_push]
          simp
        simp only [execOp, hop, e1, convert, Sem.run_bind, run_underlying' h1, run_underlying' h2, run_underlying' h3, Result.andThen_ok, Conv.stringToBytes, run_choose, hq, Bool.false_eq_true, if_false, hcap]
        simp only [newRow, Sem.run_bind, run_newObj, Result.andThen_ok, Sem.run_pure, markStringish, run_shape, World.shape?]
        simp only [Array.getElem?_push_size, hccd, run_freeze, Result.andThen_ok, Sem.run_pure]
        rw [hfz _ rfl]
    · cases he
  · rename_i e h1 h2 hx
    split at he
    · rename_i h3
      simp only [pureR, Option.some.injEq] at he
      subst he
      have hv := ho x (by simp [Op.operands, hop]) _ hx
      generalize hc : a.eval x = cx at hv
      cases hv
      refine .pure' hr (cv := .string .empty) ?_ (.string _)
      simp [execOp, hop, hc, convert, run_underlying' h1, run_underlying' h2, run_underlying' h3, Conv.bytesToString]
    · cases he
  · rename_i e b off n c h1 h2 hx
    split at he
    · rename_i h3
      rcases vr_slice_inv (ho x (by simp [Op.operands, hop]) _ hx) with ⟨rfl, rfl, hcv⟩ | ⟨mb, co, ccap, hm, g1, g2, g3, g4, hcv⟩
      · simp only [pureR, Option.some.injEq] at he
        subst he
        refine .pure' hr (cv := .string .empty) ?_ (.string _)
        simp [execOp, hop, hcv, convert, run_underlying' h1, run_underlying' h2, run_underlying' h3, Conv.bytesToString]
      split at he
      · simp only [pureR, Option.some.injEq] at he
        subst he
        refine .pure' hr (cv := .string .empty) ?_ (.string _)
        simp only [execOp, hop, hcv, convert, Sem.run_bind, run_underlying' h1, run_underlying' h2, run_underlying' h3, Result.andThen_ok, Conv.bytesToString, loadCells, loadCellsFrom, Sem.run_pure]
        simp
      · rename_i hn0
        split at he
        · rename_i cs hcs
          split at he
          · rename_i l hl
            simp only [Option.map_eq_some_iff] at he
            obtain ⟨bs, hbs, rfl⟩ := he
            obtain ⟨es, flat, own, hb⟩ := cellsAt_spec hcs
            obtain ⟨cc, ct, fz, k1, k2, k3, k4, k5, k6⟩ := cells_blk hr (hrd b (by simp)) hm hb
            obtain ⟨cl, c1, c2, c3⟩ := k5.read hl
            have hcl := vrl_scal_eq c1 (bytesOf_scal hbs)
            subst hcl
            have hco := g1 (by have : n ≠ 0 := fun e => hn0 e; omega)
            subst hco
            refine .pure' hr (cv := .string ⟨bs.toArray⟩) ?_ (.string _)
            simp only [execOp, hop, hcv, convert, Sem.run_bind, run_underlying' h1, run_underlying' h2, run_underlying' h3, Result.andThen_ok, Conv.bytesToString, run_loadCells k1 cl c2 c3]
            rw [← Array.forIn_toList]
            have := bytes_loop (P := P) hbs ByteArray.empty w
            refine Eq.trans (congrArg (fun r : Result ByteArray => (r.andThen fun s w' => (Result.ok (Value.string s) w' : Result Value)).andThen fun v w' => (Result.ok (Next.value v) w' : Result Next)) this) ?_
            simp [ByteArray.empty, ByteArray.emptyWithCapacity]
            rfl
          · cases he
        · cases he
    · cases he
  · cases he

/-! ### make -/
theorem aop_makeMap {t : TypeId} (hop : o.op = .makeMap t none) (hr : HR V m h w) (he : allocR h (.map []) (fun b => .map (some b)) = some r) : OpRes P a o V m h w r := by
  simp only [allocR, Option.some.injEq] at he
  subst he
  obtain ⟨h1, h2⟩ := hr.alloc (w' := { w with heap := w.heap.push (.map #[] 0) }) (mb := ⟨w.heap.size, 0, 0, 0, true⟩) (blk := .map []) rfl rfl fun w'' hn => ⟨rfl, #[], 0, hn, rfl, fun i k v hi => by simp at hi⟩
  refine ⟨.map (some w.heap.size), _, _, .inl ?_, ?_, h1, h2⟩
  · simp [execOp, hop, Instr.makeMap]
  · exact VR.map (mb := ⟨w.heap.size, 0, 0, 0, true⟩) (by simp [ups])
theorem getElem?_flatten_replicate {α : Type} (l : List α) (hl : l.length ≠ 0) : ∀ (k i : Nat), (List.replicate k l).flatten[i]? = if i < k * l.length then l[i % l.length]? else none := by
  intro k
  induction k with
  | zero => intro i; simp
  | succ k ih =>
    intro i
    simp only [List.replicate_succ, List.flatten_cons]
    by_cases hi : i < l.length
    · rw [List.getElem?_append_left hi, Nat.mod_eq_of_lt hi, if_pos]
      rw [Nat.succ_mul]; omega
    · rw [List.getElem?_append_right (by omega), ih]
      have e1 : (i - l.length) % l.length = i % l.length := by
        conv => rhs; rw [show i = (i - l.length) + l.length by omega, Nat.add_mod_right]
      rw [e1]
      by_cases h2 : i - l.length < k * l.length
      · rw [if_pos h2, if_pos]; rw [Nat.succ_mul]; omega
      · rw [if_neg h2, if_neg]; rw [Nat.succ_mul]; omega
theorem wrap_i64 {n : Int} (h0 : 0 ≤ n) (h1 : n ≤ 2 ^ 46) : IntKind.i64.wrap n = n := by
  have hm : n % (2 ^ 64 : Int) = n := by omega
  have hc : ¬ n ≥ (2 ^ 63 : Int) := by omega
  show (if (true && decide (n % (2 ^ 64 : Int) ≥ (2 ^ 63 : Int))) = true then n % (2 ^ 64 : Int) - 2 ^ 64 else n % (2 ^ 64 : Int)) = n
  simp only [hm, hc, decide_false, Bool.and_false, Bool.false_eq_true, if_false]
theorem aop_makeSlice {t : TypeId} {x y : Operand} (hop : o.op = .makeSlice t x y) (hr : HR V m h w) (ho : OpdR m σ a o)
    (he : (match P.underlying t, opd σ x, opd σ y with
    | some (.slice e), some (.int _ n), some (.int _ k) => match P.info? e, zeroA P e with
      | some i, some z => if 0 ≤ n ∧ n ≤ k ∧ k * i.bytes ≤ 2 ^ 46 ∧ k ≤ 2 ^ 46 ∧ i.size ≠ 0 ∧ z.cells.size = i.size then
          allocR h (.cells ((List.replicate k.toNat z.cells.toList).flatten) i.size (z.cells.toList.all scal) true) fun b => .slice (some ⟨b, 0, none⟩) n.toNat k.toNat
        else none
      | _, _ => none
    | _, _, _ => none) = some r) : OpRes P a o V m h w r := by
  split at he
  · rename_i e k1 n k2 k hu hx hy
    split at he
    · rename_i i z hi hz
      split at he
      · rename_i hc
        obtain ⟨c1, c2, c3, c4, c5, c6⟩ := hc
        simp only [allocR, Option.some.injEq] at he
        subst he
        obtain ⟨⟨i', h1, h2⟩, h3⟩ := zeroA_spec hz
        rw [hi] at h1; cases h1
        have e1 := (ho x (by simp [Op.operands, hop]) _ hx).scal_eq rfl
        have e2 := (ho y (by simp [Op.operands, hop]) _ hy).scal_eq rfl
        have hw1 := wrap_i64 c1 (by omega)
        have hw2 := wrap_i64 (n := k) (by omega) (by omega)
        have hzl : z.cells.toList.length = i.size := by simpa using c6
        generalize hn : k.toNat * i.size = N
        generalize hcc : (Array.range N).map ((if N = 0 then #[] else z.cells)[· % (if N = 0 then #[] else z.cells).size]!) = cc
        have hcs : cc.size = N := by rw [← hcc]; simp
        have hvr : VRL m z.cells.toList z.cells.toList := zero_cells h3
        have hlen : ((List.replicate k.toNat z.cells.toList).flatten).length = N := by
          simp only [List.length_flatten, List.map_replicate, List.sum_replicate_nat, hzl]; exact hn
        refine OpRes.rowX hr (mk := fun b => .slice (some ⟨b, 0, none⟩) n.toNat k.toNat) (cmk := fun b => .slice (some ⟨b, 0, none⟩) n.toNat k.toNat)
          (cc := cc) (ct := e) (fz := (0, 0)) (w' := { w with heap := w.heap.push (.cells cc e) }) ?_ ?_ ?_ rfl (fun o _ => by simp) ?_ ?_
        · rw [hcs, hlen]; exact Nat.le_refl _
        · intro j v hj
          have hjl : j < N := by rw [← hlen]; exact (List.getElem?_eq_some_iff.1 hj).1
          have hN : N ≠ 0 := by omega
          rw [getElem?_flatten_replicate _ (by rw [hzl]; exact c5), hzl, hn, if_pos hjl] at hj
          have hmod : j % i.size < i.size := Nat.mod_lt _ (Nat.pos_of_ne_zero c5)
          obtain ⟨cv, g1, g2⟩ := hvr.get _ v hj
          refine ⟨cv, ?_, g2⟩
          rw [← hcc, Array.getElem?_map]
          simp only [hN, if_false, Array.getElem?_range, hjl, if_true, Option.map_some, Option.some.injEq]
          rw [c6, getElem!_pos z.cells (j % i.size) (by rw [c6]; exact hmod)]
          have : z.cells[j % i.size]? = some cv := by simpa using g1
          rw [Array.getElem?_eq_getElem (by rw [c6]; exact hmod)] at this
          simpa using this
        · intro hs
          refine List.all_eq_true.2 fun v hv => ?_
          obtain ⟨l, hl, hvl⟩ := List.mem_flatten.1 hv
          have := List.eq_of_mem_replicate hl
          subst this
          exact List.all_eq_true.1 hs v hvl
        · intro m' hm
          have := VR.slice (m := m') (o := 0) (l := n.toNat) (c := k.toNat) (co := 0) (cc := k.toNat) hm (by simp) (by omega) (Nat.le_refl _) (by simp [hcs, hn])
          exact this
        · have t1 : ¬ ((decide (k < 0) || decide ((i.bytes : Int) * k > 2 ^ 48)) || decide (n < 0) || decide (n > k)) = true := by
            simp only [Bool.or_eq_true, decide_eq_true_eq, not_or]
            refine ⟨⟨⟨by omega, ?_⟩, by omega⟩, by omega⟩
            rw [Int.mul_comm]; omega
          simp only [execOp, hop, e1, e2, Instr.makeSlice, Sem.run_bind, run_underlying' hu, Result.andThen_ok, asInt, asIntOf, Sem.run_pure, run_typeInfo' hi, hw1, hw2]
          rw [if_neg t1]
          simp only [Sem.run_bind, Sem.run_pure, run_askRoom, Result.andThen_ok, run_sizeOf' hi, hn]
          by_cases h0 : N = 0
          · simp only [h0, if_true, Sem.run_pure, Result.andThen_ok] at hcc ⊢
            simp only [newRow, Sem.run_bind, run_newObj, Result.andThen_ok, Sem.run_pure, hcc]
          · simp only [h0, if_false, Sem.run_pure, Sem.run_bind, run_zeroValue' hi h2, Result.andThen_ok] at hcc ⊢
            simp only [newRow, Sem.run_bind, run_newObj, Result.andThen_ok, Sem.run_pure, hcc]
      · cases he
    · cases he
  · cases he
end
end Go.GE
