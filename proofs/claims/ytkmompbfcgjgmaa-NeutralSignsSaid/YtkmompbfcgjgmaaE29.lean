/-
  GE, part 29: ranges over functions, rounds, built values, append, as rewriting rules.
-/
import Derived.Test.YtkmompbfcgjgmaaE28
set_option autoImplicit false
set_option linter.unusedVariables false
set_option linter.unusedSimpArgs false
namespace Go.GE
variable {P : Program} {E : Ev} {σ : Tm} {h : List Blk} {d : Option Nat} {ty : TypeId} {pos : String} {af : Array Edge} {g : Option (Nat × Bool)}

/-! ### built values -/
def plK (P : Program) (t : TypeId) : Option (List (Nat × Nat)) := match P.underlying t with
  | some (.struct fs) => optAll (fun f : Field => (aggSize P f.type).map fun s => (f.offset, s)) fs.toList
  | _ => none
def zeroE (P : Program) (t : TypeId) : Option Value := match P.underlying t with
  | some (.slice e) => zeroA P e
  | _ => none
def baseArr (z : Array Value) (n : Nat) : Array Value := (Array.range n).map ((if n = 0 then #[] else z)[· % (if n = 0 then #[] else z).size]!)
def partsA (σ : Tm) (parts : Array (Nat × Operand)) : Option (List (Nat × Value)) := optAll (fun p : Nat × Operand => (opd σ p.2).map fun v => (p.1, v)) parts.toList
theorem o_build {t : TypeId} {parts : Array (Nat × Operand)} {z : Value} {pl : List (Nat × Nat)} (hz : zeroA P t = some z) (hp : plK P t = some pl) : aop P E σ h ⟨d, .build t parts, ty, pos, af, g⟩ = (match partsA σ parts with
    | some ps => (Instr.fill (fun i => pl[i]?) z.cells ps).bind fun cs => pureR h (.agg cs)
    | none => none) := by
  unfold plK at hp
  split at hp
  · rename_i fs hu
    simp only [aop, hz, hu, hp, partsA]
    cases optAll (fun p : Nat × Operand => (opd σ p.2).map fun v => (p.1, v)) parts.toList with
    | none => rfl
    | some ps => simp only [hp]
  · cases hp
theorem o_buildSlice {t : TypeId} {len : Nat} {parts : Array (Nat × Operand)} {z : Value} {s : Nat} {ba : Array Value} (he : elemK P t = some (none, s)) (hz : zeroE P t = some z) (hl : len * s ≤ 2 ^ 24) (hb : baseArr z.cells (len * s) = ba) :
    aop P E σ h ⟨d, .buildSlice t len parts, ty, pos, af, g⟩ = (match partsA σ parts with
    | some ps => (match Instr.fill (fun i => some (i * s, s)) ba ps with
      | some cs => allocR h (mkCells cs.toList s) fun b => .slice (some ⟨b, 0, none⟩) len len
      | none => none)
    | none => none) := by
  unfold elemK at he
  unfold zeroE at hz
  split at hz
  · rename_i e hu
    rw [hu] at he
    cases hs : aggSize P e with
    | none => simp [hs] at he
    | some s' =>
      simp [hs] at he; subst he
      simp only [aop, hu, hs, hz, partsA]
      cases optAll (fun p : Nat × Operand => (opd σ p.2).map fun v => (p.1, v)) parts.toList with
      | none => rfl
      | some ps => simp only [hs, hz, if_pos hl]; rw [← hb]; rfl
  · cases hz
theorem o_makeFunc {f : FuncId} {xs ys : Array Operand} : aop P E σ h ⟨d, .makeFunc (.func f) xs ys, ty, pos, af, g⟩ = (match opds σ xs.toList, opds σ ys.toList with
    | some xs, some ys => pureR h (.func (.func f) xs.toArray ys.toArray)
    | _, _ => none) := by
  simp only [aop]
  cases opds σ xs.toList <;> cases opds σ ys.toList <;> rfl
theorem callV_fc {f : FuncId} {xs ys : Array Value} {args : List Value} : callV P E h (.func (.func f) xs ys) args = callH E f (xs.toList ++ args ++ ys.toList) h := rfl
theorem callV_y {l : Nat} {ys : Array Value} {args : List Value} : callV P E h (.func (.yield l) #[] ys) args = yieldH E l args h := by simp [callV]

/-! ### append -/
def apK (P : Program) (t : TypeId) : Option (Nat × Nat) := match P.underlying t with
  | some (.slice e) => match P.info? e with
    | some i => if i.size ≠ 0 ∧ i.zero.map (·.cells.size) = some i.size then some (i.size, i.bytes) else none
    | none => none
  | _ => none
def notInt (P : Program) (t : TypeId) : Bool := match P.underlying t with
  | some (.int _) => false
  | some _ => true
  | none => false
theorem builtin_append {t t2 : TypeId} {ts : List TypeId} {s x : Value} {xs : List Value} (hn : notInt P t2 = true) : builtinA P h .append (t :: t2 :: ts) (s :: x :: xs) = appendA P h t s x := by
  unfold notInt at hn
  simp only [builtinA]
  split at hn
  · cases hn
  · rename_i d hd hu
    rw [hu]
    cases d <;> first | rfl | (exact absurd rfl (hd _))
  · cases hn
theorem app_nil {t : TypeId} {x : Value} {sz by' n : Nat} {new : List Value} {fl : Bool} {rd : List Nat} (hk : apK P t = some (sz, by')) (hs : srcCells h sz x = some (n, new, fl, rd)) (hn : n ≠ 0) (h1 : n * by' ≤ 2 ^ 46) (h2 : n ≤ 2 ^ 46) :
    appendA P h t (.slice none 0 0) x = some ⟨.slice (some ⟨h.length, 0, none⟩) n n, h ++ [.cells new sz fl true], rd, []⟩ := by
  unfold apK at hk
  split at hk
  · rename_i e hu
    split at hk
    · rename_i i hi
      split at hk
      · rename_i hc
        cases hk
        unfold appendA
        simp only [hu, hi, hs]
        cases n with
        | zero => exact absurd rfl hn
        | succ n => simp only [h1, h2, hc.1, hc.2, ne_eq, not_false_eq_true, and_self, if_true]
      · cases hk
    · cases hk
  · cases hk
theorem app_some {t : TypeId} {x : Value} {sz by' n b o l c es : Nat} {cs old new : List Value} {flat fl : Bool} {rd : List Nat} (hk : apK P t = some (sz, by')) (hs : srcCells h sz x = some (n, new, fl, rd)) (hn : n ≠ 0) (hb : h[b]? = some (.cells cs es flat true)) (hes : es = sz)
    (ho : rdN cs o (l * sz) = some old) (h1 : (l + n) * by' ≤ 2 ^ 46) (h2 : l + n ≤ 2 ^ 46) (hc : new.all cellV = true) :
    appendA P h t (.slice (some ⟨b, o, none⟩) l c) x = some ⟨.slice (some ⟨h.length, 0, none⟩) (l + n) (l + n), h.set b .dead ++ [.cells (old ++ new) sz (flat && fl) true], b :: rd, [b]⟩ := by
  subst hes
  unfold apK at hk
  split at hk
  · rename_i e hu
    split at hk
    · rename_i i hi
      split at hk
      · rename_i hc'
        cases hk
        unfold appendA
        simp only [hu, hi, hs]
        cases n with
        | zero => exact absurd rfl hn
        | succ n => simp only [hb, ho, h1, h2, hc, hc'.1, hc'.2, ne_eq, not_false_eq_true, and_self, if_true]
      · cases hk
    · cases hk
  · cases hk

/-! ### ranges over functions -/
def rangeE (cx : Cx) (l : Nat) (st : St) (r : Option OR) : Res :=
  match r with
  | some r => match r.h[l]? with
    | some (.loop l') => match l'.state, l'.pending with
      | .ready, none => some (.normal, ⟨st.σ, r.h.set l .dead, addWr cx.base st.wr r.wr⟩)
      | .done, some c => (codeEx c).map fun e => (e, ⟨st.σ, r.h.set l .dead, addWr cx.base st.wr r.wr⟩)
      | _, _ => none
    | _ => none
  | none => none
theorem range_step {f : FuncId} {nt b : Nat} {x a c : Code} {t : Nat} {ps : Array Tmp} {ks : List Nat} {st : St} {gf : FuncId} {fs cs : Array Value} (hx : x = .rangeFunc (.tmp t) ps a c) (hk : (ue a).1 ++ (ue c).1 = ks) (hf : lk st.σ t = some (.func (.func gf) fs cs)) :
    codeB P E ⟨f, nt, b, none⟩ x st = rangeE ⟨f, nt, b, none⟩ st.h.length st (callH E gf (fs.toList ++ [.func (.yield st.h.length) #[] #[]] ++ cs.toList) (st.h ++ [.loop ⟨.ready, none, f, keepT ks st.σ, nt, ps, a, c⟩])) := by
  subst hx; subst hk
  simp only [codeB, opd, hf, rangeE]
  rfl
theorem rangeE_ready {cx : Cx} {l : Nat} {st : St} {r : OR} {l' : ALoop} (h1 : r.h[l]? = some (.loop l')) (h2 : l'.state = .ready) (h3 : l'.pending = none) : rangeE cx l st (some r) = some (.normal, ⟨st.σ, r.h.set l .dead, addWr cx.base st.wr r.wr⟩) := by
  simp only [rangeE, h1, h2, h3]
theorem rnd_step {l : Nat} {args : List Value} {lp l1 l2 : ALoop} {σ' : Tm} {st1 st2 : St} (h1 : h[l]? = some (.loop lp)) (h2 : lp.state = .ready) (h3 : lp.pending = none) (h4 : putAll lp.σ lp.params.toList args = some σ') (h5 : (lp.params.toList.all (fun t => Nat.blt t lp.size) && ndk σ') = true)
    (h6 : codeB P E ⟨lp.fn, lp.size, h.length, some l⟩ lp.assign ⟨σ', h, []⟩ = some (.normal, st1)) (h7 : st1.h[l]? = some (.loop l1)) (h8 : l1.state = .ready)
    (h9 : codeB P E ⟨lp.fn, lp.size, h.length, some l⟩ lp.body ⟨st1.σ, st1.h.set l (.loop { l1 with state := .busy }), ins st1.wr l⟩ = some (.normal, st2)) (h10 : st2.h[l]? = some (.loop l2)) :
    rndB P E l args h = finish h.length (.bool true) (st2.h.set l (.loop { l2 with state := .ready, pending := none })) (ins st2.wr l) := by
  simp only [rndB, h1, h2, h3, h4, h5, cond_true, h6, h7, h8, h9, h10]
end Go.GE
