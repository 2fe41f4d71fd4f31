/-
  GE, part 25: each operation's step as a rewriting rule, with the types' facts as numbers.
-/
import Derived.Test.YtkmompbfcgjgmaaE24
set_option autoImplicit false
set_option linter.unusedVariables false
set_option linter.unusedSimpArgs false
namespace Go.GE
variable {P : Program}

/-! ### facts of types -/
def fieldAt (P : Program) (t : TypeId) (i : Nat) : Option (Nat × Nat) := (fieldOf P t i).bind fun f => (aggSize P f.type).map fun s => (f.offset, s)
def aggK (P : Program) (t : TypeId) : Option (Bool × Nat) := match P.underlying t, P.info? t with
  | some d, some i => match d with
    | .struct _ | .array _ _ => some (true, i.size)
    | _ => some (false, i.size)
  | _, _ => none
def elemK (P : Program) (t : TypeId) : Option (Option Nat × Nat) := match P.underlying t with
  | some (.array n e) => (aggSize P e).map fun s => (some n, s)
  | some (.slice e) => (aggSize P e).map fun s => (none, s)
  | _ => none
inductive LenK where | str | arr (n : Nat) | sl
def lenK (P : Program) (t : TypeId) : Option LenK := match P.underlying t with
  | some .string => some .str
  | some (.array n _) => some (.arr n)
  | some (.slice _) => some .sl
  | _ => none
def convK (P : Program) (s d : TypeId) : Option IntKind := match P.underlying s, P.underlying d with
  | some _, some (.int k) => some k
  | _, _ => none
def gd (l : List Oper) (j : Nat) : Option Nat := (l[j]?).bind (·.dst)

/-! ### guards, regions -/
def want (ops : List Oper) (σ : Tm) : Option (Nat × Bool) → Option Bool
  | none => some true
  | some (j, w) => match gd ops j with
    | some t => match lk σ t with
      | some (.bool b) => some (b == w)
      | some (.tuple cs) => cond cs.isEmpty (some false) none
      | _ => none
    | none => none
def oStep (P : Program) (E : Ev) (base : Nat) (g : Option Bool) (o : Oper) (st : St) : Option (St × Fp) :=
  match g with
  | some true => match aop P E st.σ st.h o with
    | some r => some (⟨putO st.σ o.dst r.v, r.h, addWr base st.wr r.wr⟩, ⟨r.rd, r.wr ++ range' st.h.length (r.h.length - st.h.length)⟩)
    | none => none
  | some false => some (⟨putO st.σ o.dst undef, st.h, st.wr⟩, ⟨[], []⟩)
  | none => none
def fstS (x : Option (St × Fp)) (f : St → Option St) : Option St := match x with
  | some (st', _) => f st'
  | none => none
def fstF (x : Option (St × Fp)) (f : St → Option (St × List Fp)) : Option (St × List Fp) := match x with
  | some (st', fp) => match f st' with
    | some (st'', fps) => some (st'', fp :: fps)
    | none => none
  | none => none
section
variable {E : Ev} {σ : Tm} {h : List Blk} {d : Option Nat} {ty : TypeId} {pos : String} {af : Array Edge} {g : Option (Nat × Bool)} {base : Nat} {st : St} {q r : List Oper} {wr : List Nat}
theorem runOps_nil : runOps P E base q [] st = some st := rfl
theorem runOps_cons {o : Oper} : runOps P E base q (o :: r) st = fstS (opStep P E base q o st) (runOps P E base q r) := by
  simp only [runOps, fstS]; rfl
theorem runOpsF_nil : runOpsF P E base q [] st = some (st, []) := rfl
theorem runOpsF_cons {o : Oper} : runOpsF P E base q (o :: r) st = fstF (opStep P E base q o st) (runOpsF P E base q r) := by
  simp only [runOpsF, fstF]; rfl
theorem fstS_some {x : St} {fp : Fp} {f : St → Option St} : fstS (some (x, fp)) f = f x := rfl
theorem fstF_some {x : St} {fp : Fp} {f : St → Option (St × List Fp)} : fstF (some (x, fp)) f = (f x).map fun p => (p.1, fp :: p.2) := by
  simp only [fstF]; cases f x <;> rfl
theorem opStep_eq {op : Op} : opStep P E base q ⟨d, op, ty, pos, af, g⟩ ⟨σ, h, wr⟩ = oStep P E base (want q σ g) ⟨d, op, ty, pos, af, none⟩ ⟨σ, h, wr⟩ := by
  have hw : wantedA q σ ⟨d, op, ty, pos, af, g⟩ = want q σ g := by
    cases g with
    | none => rfl
    | some x => rfl
  simp only [opStep, oStep, hw]
  rfl
theorem want_none : want q σ none = some true := rfl
theorem want_some {j t : Nat} {w : Bool} (hg : gd q j = some t) : want q σ (some (j, w)) = (match lk σ t with
      | some (.bool b) => some (b == w)
      | some (.tuple cs) => cond cs.isEmpty (some false) none
      | _ => none) := by simp only [want, hg]
/-- what an operation's answer does to the state -/
def fin (d : Option Nat) (base : Nat) (σ : Tm) (n : Nat) (wr : List Nat) (r : Option OR) : Option (St × Fp) :=
  match r with
  | some r => some (⟨putO σ d r.v, r.h, addWr base wr r.wr⟩, ⟨r.rd, r.wr ++ range' n (r.h.length - n)⟩)
  | none => none
theorem oStep_true {o : Op} : oStep P E base (some true) ⟨d, o, ty, pos, af, g⟩ ⟨σ, h, wr⟩ = fin d base σ h.length wr (aop P E σ h ⟨d, o, ty, pos, af, g⟩) := rfl
theorem oStep_false {o : Op} : oStep P E base (some false) ⟨d, o, ty, pos, af, g⟩ ⟨σ, h, wr⟩ = some (⟨putO σ d undef, h, wr⟩, ⟨[], []⟩) := rfl
/-- a plain value -/
theorem fin_pure {n : Nat} {v : Value} : fin d base σ n wr (pureR h v) = some (⟨putO σ d v, h, wr⟩, ⟨[], range' n (h.length - n)⟩) := by
  simp [fin, pureR, addWr]
theorem fin_read {n : Nat} {v : Value} {rd : List Nat} : fin d base σ n wr (some ⟨v, h, rd, []⟩) = some (⟨putO σ d v, h, wr⟩, ⟨rd, range' n (h.length - n)⟩) := by
  simp [fin, addWr]
theorem fin_alloc {n : Nat} {b : Blk} {mk : Nat → Value} : fin d base σ n wr (allocR h b mk) = some (⟨putO σ d (mk h.length), h ++ [b], wr⟩, ⟨[], range' n (h.length + 1 - n)⟩) := by
  simp [fin, allocR, addWr]
theorem fin_write {n : Nat} {v : Value} {h' : List Blk} {rd wr' : List Nat} : fin d base σ n wr (some ⟨v, h', rd, wr'⟩) = some (⟨putO σ d v, h', addWr base wr wr'⟩, ⟨rd, wr' ++ range' n (h'.length - n)⟩) := rfl

/-! ### operations -/
theorem o_move {x : Operand} : aop P E σ h ⟨d, .move x, ty, pos, af, g⟩ = (opd σ x).bind (pureR h) := rfl
theorem o_assign {x : Operand} : aop P E σ h ⟨d, .assign x, ty, pos, af, g⟩ = (opd σ x).bind (pureR h) := rfl
theorem o_pick {c a b : Operand} : aop P E σ h ⟨d, .pick c a b, ty, pos, af, g⟩ = (match opd σ c with
    | some (.bool true) => (opd σ a).bind (pureR h)
    | some (.bool false) => (opd σ b).bind (pureR h)
    | _ => none) := rfl
theorem o_alloc {e : TypeId} : aop P E σ h ⟨d, .alloc e, ty, pos, af, g⟩ = (zeroA P e).bind fun v => allocR h (mkCells v.cells.toList 1) ptrTo := rfl
theorem o_box {e : TypeId} {x : Operand} : aop P E σ h ⟨d, .box e x, ty, pos, af, g⟩ = (opd σ x).bind fun v => allocR h (mkCells v.cells.toList 1) ptrTo := rfl
theorem o_load {t : TypeId} {x : Operand} : aop P E σ h ⟨d, .load t x, ty, pos, af, g⟩ = (match opd σ x with
    | some (.pointer (some ⟨b, o, none⟩)) => (loadA P h t b o).map fun v => ⟨v, h, [b], []⟩
    | _ => none) := rfl
theorem o_store {t : TypeId} {a x : Operand} : aop P E σ h ⟨d, .store t a x, ty, pos, af, g⟩ = (match opd σ a, opd σ x, aggSize P t with
    | some (.pointer (some ⟨b, o, none⟩)), some v, some s =>
      if v.cells.size = s then (storeB h b o v.cells.toList).map fun h' => ⟨undef, h', [b], [b]⟩ else none
    | _, _, _ => none) := rfl
theorem o_nilCheck {x : Operand} : aop P E σ h ⟨d, .nilCheck x, ty, pos, af, g⟩ = (match opd σ x with
    | some (.pointer (some a)) => pureR h (.pointer (some a))
    | some (.func (.func f) xs ys) => pureR h (.func (.func f) xs ys)
    | some (.func (.yield l) xs ys) => pureR h (.func (.yield l) xs ys)
    | some (.iface t v) => pureR h (.iface t v)
    | _ => none) := rfl
theorem o_bin {op : BinOp} {t yt : TypeId} {x y : Operand} : aop P E σ h ⟨d, .binOp op t x y yt, ty, pos, af, g⟩ = (match opd σ x, opd σ y with
    | some a, some b => (binA P op t (isC x || isC y) a b).bind (pureR h)
    | _, _ => none) := rfl
theorem o_un {op : UnOp} {t : TypeId} {x : Operand} : aop P E σ h ⟨d, .unOp op t x, ty, pos, af, g⟩ = (match opd σ x with
    | some (.int k n) => (pureOf (Op.unary op (.int k n))).bind (pureR h)
    | some (.bool b) => (pureOf (Op.unary op (.bool b))).bind (pureR h)
    | _ => none) := rfl
theorem o_extract {t : Operand} {i : Nat} : aop P E σ h ⟨d, .extract t i, ty, pos, af, g⟩ = (match opd σ t with
    | some (.tuple vs) => (vs[i]?).bind (pureR h)
    | _ => none) := rfl
theorem o_callV {f : Operand} {args : Array Operand} {ts : Array TypeId} : aop P E σ h ⟨d, .call ⟨.value f, args, ts⟩, ty, pos, af, g⟩ = (match opds σ args.toList with
    | some args => (opd σ f).bind fun fv => callV P E h fv args
    | none => none) := rfl
theorem o_callB {b : Builtin} {args : Array Operand} {ts : Array TypeId} : aop P E σ h ⟨d, .call ⟨.builtin b, args, ts⟩, ty, pos, af, g⟩ = (match opds σ args.toList with
    | some args => builtinA P h b ts.toList args
    | none => none) := rfl
theorem o_callI {r : Operand} {n : String} {args : Array Operand} {ts : Array TypeId} : aop P E σ h ⟨d, .call ⟨.invoke r n, args, ts⟩, ty, pos, af, g⟩ = (match opds σ args.toList with
    | some args => match opd σ r with
        | some (.iface t v) => match methodA P t v n with
          | some (f, v') => callH E f (v' :: args) h
          | none => none
        | _ => none
    | none => none) := rfl
theorem o_fieldAddr {t : TypeId} {x : Operand} {i of s : Nat} (hf : fieldAt P t i = some (of, s)) (hs : s ≠ 0) : aop P E σ h ⟨d, .fieldAddr t x i, ty, pos, af, g⟩ = (match opd σ x with
    | some (.pointer (some ⟨b, o, none⟩)) => pureR h (.pointer (some ⟨b, o + of, none⟩))
    | _ => none) := by
  unfold fieldAt at hf
  show (match opd σ x, fieldOf P t i with
    | some (.pointer (some ⟨b, o, none⟩)), some f => match aggSize P f.type with
      | some s => if s = 0 then none else pureR h (.pointer (some ⟨b, o + f.offset, none⟩))
      | none => none
    | _, _ => none) = _
  cases hx : fieldOf P t i with
  | none => rw [hx] at hf; cases hf
  | some f =>
    rw [hx] at hf
    cases hz : aggSize P f.type with
    | none => simp [hz] at hf
    | some z =>
      simp [hz] at hf
      obtain ⟨rfl, rfl⟩ := hf
      split <;> simp_all
theorem o_field {t : TypeId} {x : Operand} {i : Nat} : aop P E σ h ⟨d, .field t x i, ty, pos, af, g⟩ = (match opd σ x, fieldOf P t i with
    | some (.agg cs), some f => (partA P f.type cs f.offset).bind (pureR h)
    | _, _ => none) := rfl
theorem o_indexAddrS {t : TypeId} {x i : Operand} {s : Nat} (he : elemK P t = some (none, s)) : aop P E σ h ⟨d, .indexAddr t x i, ty, pos, af, g⟩ = (match opd σ x, opd σ i with
    | some (.slice (some ⟨b, o, none⟩) n _), some (.int _ k) => if 0 ≤ k ∧ k < n then pureR h (.pointer (some ⟨b, o + k.toNat * s, none⟩)) else none
    | _, _ => none) := by
  unfold elemK at he
  split at he
  · rename_i n el hu
    cases hz : aggSize P el <;> simp [hz] at he
  · rename_i el hu
    cases hz : aggSize P el with
    | none => simp [hz] at he
    | some z =>
      simp [hz] at he; subst he
      simp only [aop, hu, hz]
      cases opd σ x with
      | none => rfl
      | some v => cases opd σ i with
        | none => cases v with
          | slice a n c => cases a with
            | none => rfl
            | some a => rcases a with ⟨b, o, _ | _⟩ <;> rfl
          | _ => rfl
        | some u => cases v with
          | slice a n c => cases a with
            | none => rfl
            | some a => rcases a with ⟨b, o, _ | _⟩ <;> cases u <;> first | rfl | simp only [hz]
          | _ => rfl
  · cases he
theorem o_indexAddrA {t : TypeId} {x i : Operand} {n s : Nat} (he : elemK P t = some (some n, s)) : aop P E σ h ⟨d, .indexAddr t x i, ty, pos, af, g⟩ = (match opd σ x, opd σ i with
    | some (.pointer (some ⟨b, o, none⟩)), some (.int _ k) => if 0 ≤ k ∧ k < n then pureR h (.pointer (some ⟨b, o + k.toNat * s, none⟩)) else none
    | _, _ => none) := by
  unfold elemK at he
  split at he
  · rename_i m el hu
    cases hz : aggSize P el with
    | none => simp [hz] at he
    | some z =>
      simp [hz] at he; obtain ⟨rfl, rfl⟩ := he
      simp only [aop, hu, hz]
      cases opd σ x with
      | none => rfl
      | some v => cases opd σ i with
        | none => cases v with
          | pointer a => cases a with
            | none => rfl
            | some a => rcases a with ⟨b, o, _ | _⟩ <;> rfl
          | _ => rfl
        | some u => cases v with
          | pointer a => cases a with
            | none => rfl
            | some a => rcases a with ⟨b, o, _ | _⟩ <;> cases u <;> first | rfl | simp only [hz]
          | _ => rfl
  · rename_i el hu
    cases hz : aggSize P el <;> simp [hz] at he
  · cases he
theorem loadA_eq {t : TypeId} {b o : Nat} {k : Bool × Nat} (hk : aggK P t = some k) : loadA P h t b o = (match cellsAt h b with
    | some cs => cond k.1 ((rdN cs o k.2).map fun l => .agg l.toArray) (cs[o]?)
    | none => none) := by
  unfold aggK at hk
  unfold loadA
  split at hk
  · rename_i dd i e1 e2
    rw [e1, e2]
    cases hc : cellsAt h b with
    | none => rfl
    | some cs => cases dd <;> simp at hk <;> subst hk <;> rfl
  · cases hk
theorem lenA_sl {t : TypeId} {a : Option Addr} {n c : Nat} (hk : lenK P t = some .sl) : lenA P h t (.slice a n c) = some (.int .i64 n, []) := by
  unfold lenK at hk
  unfold lenA
  split at hk <;> first | (cases hk; done) | (rename_i e; rw [e]; rfl) | cases hk
theorem builtin_len {ts : List TypeId} {x : Value} {t : TypeId} : builtinA P h .len (t :: ts) [x] = (lenA P h t x).map fun p => ⟨p.1, h, p.2, []⟩ := rfl
theorem builtin_max2 {ts : List TypeId} {k k' : IntKind} {a b : Int} : builtinA P h .max ts [.int k a, .int k' b] = pureR h (.int k (if b > a then b else a)) := by
  cases ts <;> rfl
theorem o_convert {s t : TypeId} {x : Operand} {k k' : IntKind} {n : Int} (hk : convK P s t = some k) (hx : opd σ x = some (.int k' n)) : aop P E σ h ⟨d, .convert s t x, ty, pos, af, g⟩ = pureR h (.int k (k.wrap n)) := by
  unfold convK at hk
  split at hk
  · rename_i e1 e2
    cases hk
    simp only [aop, e1, e2, hx]
  · cases hk

/-! ### integers -/
theorem bin_add {t : TypeId} {c : Bool} {k : IntKind} {a b : Int} : binA P .add t c (.int k a) (.int k b) = some (.int k (k.wrap (a + b))) := by simp [binA, Op.intArith, pureOf, pure]
theorem bin_sub {t : TypeId} {c : Bool} {k : IntKind} {a b : Int} : binA P .sub t c (.int k a) (.int k b) = some (.int k (k.wrap (a - b))) := by simp [binA, Op.intArith, pureOf, pure]
theorem bin_mul {t : TypeId} {c : Bool} {k : IntKind} {a b : Int} : binA P .mul t c (.int k a) (.int k b) = some (.int k (k.wrap (a * b))) := by simp [binA, Op.intArith, pureOf, pure]
theorem bin_quo {t : TypeId} {c : Bool} {k : IntKind} {a b : Int} (hb : b ≠ 0) : binA P .quo t c (.int k a) (.int k b) = some (.int k (k.wrap (a.tdiv b))) := by simp [binA, Op.intDiv, pureOf, pure, hb]
theorem bin_rem {t : TypeId} {c : Bool} {k : IntKind} {a b : Int} (hb : b ≠ 0) : binA P .rem t c (.int k a) (.int k b) = some (.int k (a.tmod b)) := by simp [binA, Op.intDiv, pureOf, pure, hb]
theorem bin_lss {t : TypeId} {c : Bool} {k : IntKind} {a b : Int} : binA P .lss t c (.int k a) (.int k b) = some (.bool (decide (a < b))) := by simp [binA, Op.intCmp, pureOf, pure]
theorem bin_leq {t : TypeId} {c : Bool} {k : IntKind} {a b : Int} : binA P .leq t c (.int k a) (.int k b) = some (.bool (decide (a ≤ b))) := by simp [binA, Op.intCmp, pureOf, pure]
theorem bin_gtr {t : TypeId} {c : Bool} {k : IntKind} {a b : Int} : binA P .gtr t c (.int k a) (.int k b) = some (.bool (decide (b < a))) := by simp [binA, Op.intCmp, pureOf, pure]
theorem bin_geq {t : TypeId} {c : Bool} {k : IntKind} {a b : Int} : binA P .geq t c (.int k a) (.int k b) = some (.bool (decide (b ≤ a))) := by simp [binA, Op.intCmp, pureOf, pure]
theorem bin_eql {t : TypeId} {c : Bool} {k : IntKind} {a b : Int} : binA P .eql t c (.int k a) (.int k b) = some (.bool (decide (a = b))) := by simp [binA, Op.intCmp, pureOf, pure, ibeq]
theorem bin_neq {t : TypeId} {c : Bool} {k : IntKind} {a b : Int} : binA P .neq t c (.int k a) (.int k b) = some (.bool (!decide (a = b))) := by simp [binA, Op.intCmp, pureOf, pure, bne, ibeq]
theorem un_neg {k : IntKind} {a : Int} : pureOf (Op.unary .neg (.int k a)) = some (.int k (k.wrap (-a))) := by simp [Op.unary, Op.intArith, pureOf, pure]
theorem un_not {b : Bool} : pureOf (Op.unary .not (.bool b)) = some (.bool !b) := by simp [Op.unary, pureOf, pure]
end
end Go.GE
