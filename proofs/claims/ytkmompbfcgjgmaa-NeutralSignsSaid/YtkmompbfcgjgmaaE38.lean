/-
  GE, part 38: rounds of a range over a function that end in a jump.
-/
import Derived.Test.YtkmompbfcgjgmaaE37
set_option autoImplicit false
set_option linter.unusedVariables false
set_option linter.unusedSimpArgs false
namespace Go.GE
variable {P : Program} {E : Ev} {h : List Blk}
theorem rangeE_done {cx : Cx} {l : Nat} {st : St} {r : OR} {l' : ALoop} {c : Code} {e : Ex} (h1 : r.h[l]? = some (.loop l')) (h2 : l'.state = .done) (h3 : l'.pending = some c) (h4 : codeEx c = some e) : rangeE cx l st (some r) = some (e, ⟨st.σ, r.h.set l .dead, addWr cx.base st.wr r.wr⟩) := by
  simp only [rangeE, h1, h2, h3, h4, Option.map_some]
theorem rnd_out {l : Nat} {args : List Value} {lp l1 l2 : ALoop} {σ' : Tm} {st1 st2 : St} {e : Ex} (h1 : h[l]? = some (.loop lp)) (h2 : lp.state = .ready) (h3 : lp.pending = none) (h4 : putAll lp.σ lp.params.toList args = some σ') (h5 : (lp.params.toList.all (fun t => Nat.blt t lp.size) && ndk σ') = true)
    (h6 : codeB P E ⟨lp.fn, lp.size, h.length, some l⟩ lp.assign ⟨σ', h, []⟩ = some (.normal, st1)) (h7 : st1.h[l]? = some (.loop l1)) (h8 : l1.state = .ready)
    (h9 : codeB P E ⟨lp.fn, lp.size, h.length, some l⟩ lp.body ⟨st1.σ, st1.h.set l (.loop { l1 with state := .busy }), ins st1.wr l⟩ = some (e, st2)) (he : e ≠ .normal) (h10 : st2.h[l]? = some (.loop l2)) :
    rndB P E l args h = finish h.length (.bool false) (st2.h.set l (.loop { l2 with state := .done, pending := exCode e })) (ins st2.wr l) := by
  cases e with
  | normal => exact absurd rfl he
  | _ => simp only [rndB, h1, h2, h3, h4, h5, cond_true, h6, h7, h8, h9, h10]
end Go.GE
namespace Go.GE
/-! ### searches, a step at a time (the rest of a list is looked at just where it must be) -/
def lkC (c : Bool) (v : Value) (r : Tm) (t : Nat) : Option Value := cond c (some v) (lk r t)
theorem lkC_t {v : Value} {r : Tm} {t : Nat} : lkC true v r t = some v := rfl
theorem lkC_f {v : Value} {r : Tm} {t : Nat} : lkC false v r t = lk r t := rfl
theorem lk_nil {t : Nat} : lk [] t = none := rfl
theorem lk_cons {a t : Nat} {v : Value} {r : Tm} : lk ((a, v) :: r) t = lkC (Nat.beq a t) v r t := rfl
def hasC (c : Bool) (r : Tm) (t : Nat) : Bool := cond c true (has r t)
theorem hasC_t {r : Tm} {t : Nat} : hasC true r t = true := rfl
theorem hasC_f {r : Tm} {t : Nat} : hasC false r t = has r t := rfl
theorem has_nil {t : Nat} : has [] t = false := rfl
theorem has_cons {a t : Nat} {v : Value} {r : Tm} : has ((a, v) :: r) t = hasC (Nat.beq a t) r t := rfl
def repC (c : Bool) (a : Nat) (u : Value) (r : Tm) (t : Nat) (v : Value) : Tm := cond c ((a, v) :: r) ((a, u) :: rep r t v)
theorem repC_t {a t : Nat} {u v : Value} {r : Tm} : repC true a u r t v = (a, v) :: r := rfl
theorem repC_f {a t : Nat} {u v : Value} {r : Tm} : repC false a u r t v = (a, u) :: rep r t v := rfl
theorem rep_nil {t : Nat} {v : Value} : rep [] t v = [] := rfl
theorem rep_cons {a t : Nat} {u v : Value} {r : Tm} : rep ((a, u) :: r) t v = repC (Nat.beq a t) a u r t v := rfl
def putC (c : Bool) (σ : Tm) (t : Nat) (v : Value) : Tm := cond c (rep σ t v) ((t, v) :: σ)
theorem putC_t {t : Nat} {v : Value} {σ : Tm} : putC true σ t v = rep σ t v := rfl
theorem putC_f {t : Nat} {v : Value} {σ : Tm} : putC false σ t v = (t, v) :: σ := rfl
theorem put_eq {t : Nat} {v : Value} {σ : Tm} : put σ t v = putC (has σ t) σ t v := rfl
def memC (c : Bool) (r : List Nat) (n : Nat) : Bool := cond c true (mem r n)
theorem memC_t {r : List Nat} {n : Nat} : memC true r n = true := rfl
theorem memC_f {r : List Nat} {n : Nat} : memC false r n = mem r n := rfl
theorem mem_cons {a n : Nat} {r : List Nat} : mem (a :: r) n = memC (Nat.beq a n) r n := rfl
def idxC (c : Bool) (r : List Nat) (n : Nat) : Option Nat := cond c (some 0) ((idx r n).map (· + 1))
theorem idxC_t {r : List Nat} {n : Nat} : idxC true r n = some 0 := rfl
theorem idxC_f {r : List Nat} {n : Nat} : idxC false r n = (idx r n).map (· + 1) := rfl
theorem idx_nil {n : Nat} : idx [] n = none := rfl
theorem idx_cons {a n : Nat} {r : List Nat} : idx (a :: r) n = idxC (Nat.beq a n) r n := rfl
def keepC (c : Bool) (p : Nat × Value) (l : List Nat) (r : Tm) : Tm := cond c (p :: keepT l r) (keepT l r)
theorem keepC_t {p : Nat × Value} {l : List Nat} {r : Tm} : keepC true p l r = p :: keepT l r := rfl
theorem keepC_f {p : Nat × Value} {l : List Nat} {r : Tm} : keepC false p l r = keepT l r := rfl
theorem keepT_nil {l : List Nat} : keepT l [] = [] := rfl
theorem keepT_cons {l : List Nat} {a : Nat} {v : Value} {r : Tm} : keepT l ((a, v) :: r) = keepC (mem l a) (a, v) l r := by
  unfold keepT keepC
  rw [List.filter_cons]
  cases mem l a <;> rfl
def rootsB (h : List Blk) (b : Nat) : List Nat := match h[b]? with | some blk => ptrB blk | none => []
def reachC (c : Bool) (h : List Blk) (base n b : Nat) (r acc : List Nat) : List Nat := cond c (reach h base n r acc) (reach h base n (rootsB h b ++ r) (acc ++ [b]))
theorem reachC_t {h : List Blk} {base n b : Nat} {r acc : List Nat} : reachC true h base n b r acc = reach h base n r acc := rfl
theorem reachC_f {h : List Blk} {base n b : Nat} {r acc : List Nat} : reachC false h base n b r acc = reach h base n (rootsB h b ++ r) (acc ++ [b]) := rfl
theorem reach_nil {h : List Blk} {base n : Nat} {acc : List Nat} : reach h base n [] acc = acc := by cases n <;> rfl
theorem reach_cons {h : List Blk} {base n b : Nat} {r acc : List Nat} : reach h base (n + 1) (b :: r) acc = reachC (Nat.blt b base || mem acc b) h base n b r acc := rfl
/-- sweeping, its ids told first -/
def rnm (base : Nat) (δ : List Nat) (b : Nat) : Option Nat := cond (Nat.blt b base) (some b) ((idx δ b).map (base + ·))
def pickR (base : Nat) (δ : List Nat) (h : List Blk) (b : Nat) : Option Blk := match h[b]? with | some blk => renB (rnm base δ) blk | none => none
def pickW (base : Nat) (δ : List Nat) (h : List Blk) (b : Nat) : Option (Nat × Blk) := match h[b]? with | some blk => (renB (rnm base δ) blk).map fun x => (b, x) | none => none
def sweepD (base : Nat) (st : St) (δ : List Nat) : Option St :=
  match renT (rnm base δ) st.σ, optAll (pickR base δ st.h) δ, optAll (pickW base δ st.h) st.wr with
  | some σ, some news, some ws => some ⟨σ, ws.foldl (fun h p => h.set p.1 p.2) (st.h.take base) ++ news, st.wr⟩
  | _, _, _ => none
theorem sweep_eq {base : Nat} {st : St} : sweep base st = sweepD base st (reach st.h base reachN (ptrT st.σ ++ st.wr.flatMap (rootsB st.h)) []) := rfl
end Go.GE
namespace Go.GE
section
variable {P : Program} {E : Ev} {σ : Tm} {h : List Blk} {d : Option Nat} {ty : TypeId} {pos : String} {af : Array Edge} {g : Option (Nat × Bool)}
def sliceE (h : List Blk) (s b o l c : Nat) (lo hi mx : Option Value) : Option OR :=
  match bnd mx c c with
  | some m => match bndHi hi mx m l with
    | some hh => match bnd lo hh 0, h[b]? with
      | some ll, some (.cells _ es _ _) => if es = s then some ⟨.slice (some ⟨b, o + ll * s, none⟩) (hh - ll) (m - ll), h, [b], []⟩ else none
      | _, _ => none
    | none => none
  | none => none
theorem o_sliceS {t : TypeId} {x : Operand} {lo hi mx : Option Operand} {s : Nat} (he : elemK P t = some (none, s)) : aop P E σ h ⟨d, .slice t x lo hi mx, ty, pos, af, g⟩ = (match opd σ x, optOpd σ lo, optOpd σ hi, optOpd σ mx with
    | some (.slice (some ⟨b, o, none⟩) l c), some lo, some hi, some mx => sliceE h s b o l c lo hi mx
    | some (.slice none 0 0), some lo, some hi, some mx => match bnd mx 0 0, bndHi hi mx 0 0, bnd lo 0 0 with
      | some _, some _, some _ => pureR h (.slice none 0 0)
      | _, _, _ => none
    | _, _, _, _ => none) := by
  unfold elemK at he
  split at he
  · rename_i n el hu
    cases hz : aggSize P el <;> simp [hz] at he
  · rename_i el hu
    cases hz : aggSize P el with
    | none => simp [hz] at he
    | some z =>
      simp [hz] at he; subst he
      simp only [aop, hu, hz]
      split
      · rename_i e1 e2 e3 e4
        rw [e1]
      · rename_i e1 e2 e3 e4
        rw [e1, e2, e3, e4]
        simp only
        split
        · rename_i q1 q2 q3 q4; rw [q1, q2, q3]
        · rename_i q
          split
          · rename_i a1 a2 a3 q1 q2 q3; exact (q a1 a2 a3 z q1 q2 q3 rfl).elim
          · rfl
      · rename_i b o l c lo hi mx e1 e2 e3 e4
        rw [e1, e2, e3, e4]
        simp only [sliceE]
        cases bnd mx c c <;> rfl
      · rename_i h1 h2 h3
        split
        · rename_i e1 e2 e3 e4; exact (h3 _ _ _ _ _ _ _ e1 e2 e3 e4).elim
        · rename_i e1 e2 e3 e4; exact (h2 _ _ _ e1 e2 e3 e4).elim
        · rfl
  · cases he
end
end Go.GE
namespace Go.GE
/-- an element is added to a list's cells -/
theorem app_list {h : List Blk} {b c k by' l : Nat} {cs new : List Value} {rd : List Nat} (hlen : cs.length = l * k) (hb : (l + 1) * by' ≤ 2 ^ 46) (hb2 : l + 1 ≤ 2 ^ 46) (hn : new.all cellV = true) :
    appS h k by' b 0 l c (some (.cells cs k true true)) (some (1, new, true, rd)) = some ⟨.slice (some ⟨h.length, 0, none⟩) (l + 1) (l + 1), h.set b .dead ++ [.cells (cs ++ new) k true true], b :: rd, [b]⟩ := by
  have hr := rdN_all cs (l * k) 0 (by omega)
  simp only [appS, hr, List.drop_zero]
  rw [if_pos (by refine ⟨by omega, by omega, ?_, hn⟩; first | trivial | rfl)]
  rfl
end Go.GE
namespace Go.GE
section
variable {P : Program} {E : Ev} {σ : Tm} {h : List Blk} {d : Option Nat} {ty : TypeId} {pos : String} {af : Array Edge} {g : Option (Nat × Bool)}
def fieldK (P : Program) (t : TypeId) (i : Nat) : Option (Nat × Nat × Bool) := (fieldOf P t i).bind fun f => (aggK P f.type).map fun k => (f.offset, k.2, k.1)
theorem o_fieldK {t : TypeId} {x : Operand} {i off s : Nat} {ag : Bool} (hk : fieldK P t i = some (off, s, ag)) : aop P E σ h ⟨d, .field t x i, ty, pos, af, g⟩ = (match opd σ x with
    | some (.agg cs) => (cond ag (some (.agg (cs.extract off (off + s)))) (cs[off]?)).bind (pureR h)
    | _ => none) := by
  unfold fieldK at hk
  rw [Option.bind_eq_some_iff] at hk
  obtain ⟨f, hf, hk⟩ := hk
  rw [Option.map_eq_some_iff] at hk
  obtain ⟨k, hk, he⟩ := hk
  cases he
  rw [o_field, hf]
  have hp : ∀ cs, partA P f.type cs f.offset = cond k.1 (some (.agg (cs.extract f.offset (f.offset + k.2)))) (cs[f.offset]?) := by
    intro cs
    unfold aggK at hk
    unfold partA
    split at hk
    · rename_i dd ii h1 h2
      rw [h1, h2]
      cases dd <;> simp at hk <;> subst hk <;> rfl
    · cases hk
  cases opd σ x with
  | none => rfl
  | some v => cases v <;> simp only [hp]
end
end Go.GE
