/-
  GE, part 1: how abstract values and heaps stand to those of the machine.
-/
import Derived.Test.YtkmompbfcgjgmaaE0
import Derived.AtR
import Derived.Laws.Sem
set_option autoImplicit false
set_option linter.unusedVariables false
namespace Go.GE

/-! ### small lemmas -/
theorem cond_eq_some {α : Type} {c : Bool} {x y : Option α} {a : α} (h : cond c x y = some a) : (c = true ∧ x = some a) ∨ (c = false ∧ y = some a) := by
  cases c
  · exact .inr ⟨rfl, h⟩
  · exact .inl ⟨rfl, h⟩
theorem beq_iff {a b : Nat} : Nat.beq a b = true ↔ a = b := ⟨fun h => Nat.eq_of_beq_eq_true h, fun h => by subst h; exact Nat.beq_refl a⟩
theorem beq_false {a b : Nat} : Nat.beq a b = false ↔ a ≠ b := by
  rw [← Bool.not_eq_true, beq_iff]
theorem blt_iff {a b : Nat} : Nat.blt a b = true ↔ a < b := by simp [Nat.blt, Nat.ble_eq]; omega
theorem blt_false {a b : Nat} : Nat.blt a b = false ↔ b ≤ a := by
  rw [← Bool.not_eq_true, blt_iff]; omega
theorem mem_iff {l : List Nat} {n : Nat} : mem l n = true ↔ n ∈ l := by
  induction l with
  | nil => simp [mem]
  | cons a r ih =>
    simp only [mem, List.mem_cons]
    cases h : Nat.beq a n with
    | true => have := beq_iff.1 h; simp [this]
    | false => have := beq_false.1 h; simp only [cond_false, ih]; constructor
               · exact .inr
               · rintro (h' | h')
                 · exact absurd h'.symm this
                 · exact h'
theorem mem_false {l : List Nat} {n : Nat} : mem l n = false ↔ n ∉ l := by rw [← Bool.not_eq_true, mem_iff]
theorem mem_ins {l : List Nat} {n x : Nat} : x ∈ ins l n ↔ x ∈ l ∨ x = n := by
  unfold ins
  cases h : mem l n with
  | true => have := mem_iff.1 h; simp only [cond_true]; constructor
            · exact .inl
            · rintro (h' | rfl)
              · exact h'
              · exact this
  | false => simp
theorem optAll_nil {α β : Type} (f : α → Option β) : optAll f [] = some [] := rfl
theorem optAll_cons {α β : Type} {f : α → Option β} {a : α} {r : List α} {l : List β} (h : optAll f (a :: r) = some l) :
    ∃ b l', f a = some b ∧ optAll f r = some l' ∧ l = b :: l' := by
  simp only [optAll] at h
  split at h
  · cases h
  · rename_i b hb
    split at h
    · cases h
    · rename_i l' hl
      cases h
      exact ⟨b, l', hb, hl, rfl⟩
theorem optAll_length {α β : Type} {f : α → Option β} {r : List α} {l : List β} (h : optAll f r = some l) : l.length = r.length := by
  induction r generalizing l with
  | nil => cases h; rfl
  | cons a r ih => obtain ⟨b, l', _, h2, rfl⟩ := optAll_cons h; simp [ih h2]
theorem optAll_get {α β : Type} {f : α → Option β} {r : List α} {l : List β} (h : optAll f r = some l) (i : Nat) (a : α) (hi : r[i]? = some a) :
    ∃ b, f a = some b ∧ l[i]? = some b := by
  induction r generalizing l i with
  | nil => simp at hi
  | cons x r ih =>
    obtain ⟨b, l', h1, h2, rfl⟩ := optAll_cons h
    cases i with
    | zero => simp at hi; subst hi; exact ⟨b, h1, rfl⟩
    | succ i => simp at hi; simpa using ih h2 i hi
theorem optAll_get' {α β : Type} {f : α → Option β} {r : List α} {l : List β} (h : optAll f r = some l) (i : Nat) (b : β) (hi : l[i]? = some b) :
    ∃ a, r[i]? = some a ∧ f a = some b := by
  induction r generalizing l i with
  | nil => cases h; simp at hi
  | cons x r ih =>
    obtain ⟨b', l', h1, h2, rfl⟩ := optAll_cons h
    cases i with
    | zero => simp at hi; subst hi; exact ⟨x, rfl, h1⟩
    | succ i => simp at hi; simpa using ih h2 i hi
theorem optAll_mem {α β : Type} {f : α → Option β} {r : List α} {l : List β} (h : optAll f r = some l) {a : α} (ha : a ∈ r) : ∃ b, f a = some b ∧ b ∈ l := by
  obtain ⟨i, hi⟩ := List.getElem?_of_mem ha
  obtain ⟨b, h1, h2⟩ := optAll_get h i a hi
  exact ⟨b, h1, List.mem_of_getElem? h2⟩
theorem optAll_mem' {α β : Type} {f : α → Option β} {r : List α} {l : List β} (h : optAll f r = some l) {b : β} (hb : b ∈ l) : ∃ a, a ∈ r ∧ f a = some b := by
  obtain ⟨i, hi⟩ := List.getElem?_of_mem hb
  obtain ⟨a, h1, h2⟩ := optAll_get' h i b hi
  exact ⟨a, List.mem_of_getElem? h1, h2⟩

theorem lk_rep {σ : Tm} {t u : Nat} {v : Value} : lk (rep σ t v) u = if t = u then cond (has σ t) (some v) none else lk σ u := by
  induction σ with
  | nil => simp [rep, lk, has]
  | cons p r ih =>
    obtain ⟨a, x⟩ := p
    simp only [rep, has]
    rcases Bool.eq_false_or_eq_true (Nat.beq a t) with h | h
    · have := beq_iff.1 h; subst this
      simp only [h, cond_true, lk]
      rcases Bool.eq_false_or_eq_true (Nat.beq a u) with h2 | h2
      · have := beq_iff.1 h2; subst this; simp
      · have := beq_false.1 h2; simp [this, h2]
    · have h' := beq_false.1 h
      simp only [h, cond_false, lk]
      rcases Bool.eq_false_or_eq_true (Nat.beq a u) with h2 | h2
      · have := beq_iff.1 h2; subst this; simp [Ne.symm h']
      · simp only [h2, cond_false]; exact ih
theorem lk_put {σ : Tm} {t u : Nat} {v : Value} : lk (put σ t v) u = if t = u then some v else lk σ u := by
  unfold put
  rcases Bool.eq_false_or_eq_true (has σ t) with h | h
  · simp only [cond_true, lk_rep, h]
  · simp only [h, cond_false, lk]
    rcases Bool.eq_false_or_eq_true (Nat.beq t u) with h2 | h2
    · have := beq_iff.1 h2; simp [this]
    · have := beq_false.1 h2; simp [this, h2]
theorem lk_mem {σ : Tm} {t : Nat} {v : Value} (h : lk σ t = some v) : (t, v) ∈ σ := by
  induction σ with
  | nil => simp [lk] at h
  | cons p r ih =>
    obtain ⟨a, x⟩ := p
    simp only [lk] at h
    rcases cond_eq_some h with ⟨h1, h2⟩ | ⟨_, h2⟩
    · have := beq_iff.1 h1; subst this; cases h2; simp
    · exact List.mem_cons_of_mem _ (ih h2)

/-! ### values -/
structure MB where
  blk : Nat
  sh : Nat
  ext : Nat
  esz : Nat
  own : Bool
abbrev Mp := Nat → Option MB
inductive FnR (m : Mp) : Fn → Fn → Prop
  | func (g : FuncId) : FnR m (.func g) (.func g)
  | yield {l : Nat} {mb : MB} : m l = some mb → FnR m (.yield l) (.yield mb.blk)
mutual
inductive VR (m : Mp) : Value → Value → Prop
  | bool (b : Bool) : VR m (.bool b) (.bool b)
  | int (k : IntKind) (n : Int) : VR m (.int k n) (.int k n)
  | string (s : ByteArray) : VR m (.string s) (.string s)
  | nilFunc : VR m .nilFunc .nilFunc
  | nilIface : VR m .nilIface .nilIface
  | nilPtr : VR m (.pointer none) (.pointer none)
  | nilMap : VR m (.map none) (.map none)
  | nilSlice : VR m (.slice none 0 0) (.slice none 0 0)
  | ptr {b o : Nat} {mb : MB} : m b = some mb → VR m (.pointer (some ⟨b, o, none⟩)) (.pointer (some ⟨mb.blk, mb.sh + o, none⟩))
  | slice {b o l c co cc : Nat} {mb : MB} : m b = some mb → (c ≠ 0 → co = mb.sh + o) → l ≤ c → c ≤ cc → (mb.own = true → co + cc * mb.esz ≤ mb.ext) →
      VR m (.slice (some ⟨b, o, none⟩) l c) (.slice (some ⟨mb.blk, co, none⟩) l cc)
  /-- an empty slice that is told stands for nil, too -/
  | nil0 {b o : Nat} : VR m (.slice (some ⟨b, o, none⟩) 0 0) (.slice none 0 0)
  | map {b : Nat} {mb : MB} : m b = some mb → VR m (.map (some b)) (.map (some mb.blk))
  | func {fn fn' : Fn} {xs xs' ys ys' : Array Value} : FnR m fn fn' → VRL m xs.toList xs'.toList → VRL m ys.toList ys'.toList → VR m (.func fn xs ys) (.func fn' xs' ys')
  | iface (t : TypeId) {x x' : Value} : VR m x x' → VR m (.iface t x) (.iface t x')
  | agg {xs xs' : Array Value} : VRL m xs.toList xs'.toList → VR m (.agg xs) (.agg xs')
  | tuple {xs xs' : Array Value} : VRL m xs.toList xs'.toList → VR m (.tuple xs) (.tuple xs')
inductive VRL (m : Mp) : List Value → List Value → Prop
  | nil : VRL m [] []
  | cons {x x' : Value} {xs xs' : List Value} : VR m x x' → VRL m xs xs' → VRL m (x :: xs) (x' :: xs')
end
theorem FnR.ren {m m2 : Mp} {f : Nat → Option Nat} (hf : ∀ b b' mb, f b = some b' → m b = some mb → m2 b' = some mb) {x y z : Fn} (h : FnR m x y) (hr : renFn f x = some z) : FnR m2 z y := by
  cases h with
  | func g => simp [renFn] at hr; subst hr; exact .func g
  | yield hm =>
    simp only [renFn, Option.map_eq_some_iff] at hr
    obtain ⟨b', h1, rfl⟩ := hr
    exact .yield (hf _ _ _ h1 hm)
mutual
theorem VR.ren {m m2 : Mp} {f : Nat → Option Nat} (hf : ∀ b b' mb, f b = some b' → m b = some mb → m2 b' = some mb) {v cv : Value} (h : VR m v cv) :
    ∀ (d : Nat) (v' : Value), renV f d v = some v' → VR m2 v' cv := by
  intro d v' hr
  cases d with
  | zero => simp [renV] at hr
  | succ d =>
    cases h with
    | bool b => simp [renV] at hr; subst hr; exact .bool b
    | int k n => simp [renV] at hr; subst hr; exact .int k n
    | string s => simp [renV] at hr; subst hr; exact .string s
    | nilFunc => simp [renV] at hr; subst hr; exact .nilFunc
    | nilIface => simp [renV] at hr; subst hr; exact .nilIface
    | nilPtr => simp [renV] at hr; subst hr; exact .nilPtr
    | nilMap => simp [renV] at hr; subst hr; exact .nilMap
    | nilSlice => simp [renV] at hr; subst hr; exact .nilSlice
    | ptr hm =>
      simp only [renV, Option.map_eq_some_iff] at hr
      obtain ⟨b', h1, rfl⟩ := hr
      exact .ptr (hf _ _ _ h1 hm)
    | slice hm h1 h2 h3 h4 =>
      simp only [renV, Option.map_eq_some_iff] at hr
      obtain ⟨b', hb, rfl⟩ := hr
      exact .slice (hf _ _ _ hb hm) h1 h2 h3 h4
    | nil0 =>
      simp only [renV, Option.map_eq_some_iff] at hr
      obtain ⟨b', hb, rfl⟩ := hr
      exact .nil0
    | map hm =>
      simp only [renV, Option.map_eq_some_iff] at hr
      obtain ⟨b', h1, rfl⟩ := hr
      exact .map (hf _ _ _ h1 hm)
    | func h1 h2 h3 =>
      simp only [renV] at hr
      split at hr
      · rename_i fn' xs' ys' e1 e2 e3
        cases hr
        exact .func (h1.ren hf e1) (by simpa using VRL.ren hf h2 d _ e2) (by simpa using VRL.ren hf h3 d _ e3)
      · cases hr
    | iface t hx =>
      simp only [renV, Option.map_eq_some_iff] at hr
      obtain ⟨x', h1, rfl⟩ := hr
      exact .iface t (VR.ren hf hx d _ h1)
    | agg hl =>
      simp only [renV, Option.map_eq_some_iff] at hr
      obtain ⟨l, h1, rfl⟩ := hr
      exact .agg (by simpa using VRL.ren hf hl d _ h1)
    | tuple hl =>
      simp only [renV, Option.map_eq_some_iff] at hr
      obtain ⟨l, h1, rfl⟩ := hr
      exact .tuple (by simpa using VRL.ren hf hl d _ h1)
theorem VRL.ren {m m2 : Mp} {f : Nat → Option Nat} (hf : ∀ b b' mb, f b = some b' → m b = some mb → m2 b' = some mb) {l cl : List Value} (h : VRL m l cl) :
    ∀ (d : Nat) (l' : List Value), optAll (renV f d) l = some l' → VRL m2 l' cl := by
  intro d l' hr
  cases h with
  | nil => cases hr; exact .nil
  | cons hx hl =>
    obtain ⟨b, l2, h1, h2, rfl⟩ := optAll_cons hr
    exact .cons (VR.ren hf hx d _ h1) (VRL.ren hf hl d _ h2)
end
theorem FnR.mono {m m2 : Mp} (hf : ∀ b mb, m b = some mb → m2 b = some mb) {x y : Fn} (h : FnR m x y) : FnR m2 x y := by
  cases h with
  | func g => exact .func g
  | yield hm => exact .yield (hf _ _ hm)
mutual
theorem VR.mono {m m2 : Mp} (hf : ∀ b mb, m b = some mb → m2 b = some mb) {v cv : Value} (h : VR m v cv) : VR m2 v cv := by
  cases h with
  | bool b => exact .bool b
  | int k n => exact .int k n
  | string s => exact .string s
  | nilFunc => exact .nilFunc
  | nilIface => exact .nilIface
  | nilPtr => exact .nilPtr
  | nilMap => exact .nilMap
  | nilSlice => exact .nilSlice
  | ptr hm => exact .ptr (hf _ _ hm)
  | slice hm h1 h2 h3 h4 => exact .slice (hf _ _ hm) h1 h2 h3 h4
  | nil0 => exact .nil0
  | map hm => exact .map (hf _ _ hm)
  | func h1 h2 h3 => exact .func (h1.mono hf) (VRL.mono hf h2) (VRL.mono hf h3)
  | iface t hx => exact .iface t (VR.mono hf hx)
  | agg hl => exact .agg (VRL.mono hf hl)
  | tuple hl => exact .tuple (VRL.mono hf hl)
theorem VRL.mono {m m2 : Mp} (hf : ∀ b mb, m b = some mb → m2 b = some mb) {l cl : List Value} (h : VRL m l cl) : VRL m2 l cl := by
  cases h with
  | nil => exact .nil
  | cons hx hl => exact .cons (VR.mono hf hx) (VRL.mono hf hl)
end
theorem VRL.length {m : Mp} {l cl : List Value} (h : VRL m l cl) : cl.length = l.length := by
  induction l generalizing cl with
  | nil => cases h; rfl
  | cons x l ih => cases h with | cons _ h2 => simp [ih h2]
theorem VRL.append {m : Mp} {l cl l2 cl2 : List Value} (h : VRL m l cl) (h2 : VRL m l2 cl2) : VRL m (l ++ l2) (cl ++ cl2) := by
  induction l generalizing cl with
  | nil => cases h; exact h2
  | cons x l ih => cases h with | cons a b => exact .cons a (ih b)
theorem VRL.get {m : Mp} {l cl : List Value} (h : VRL m l cl) (i : Nat) (v : Value) (hi : l[i]? = some v) : ∃ cv, cl[i]? = some cv ∧ VR m v cv := by
  induction l generalizing cl i with
  | nil => simp at hi
  | cons x l ih =>
    cases h with
    | cons a b =>
      cases i with
      | zero => simp at hi; subst hi; exact ⟨_, rfl, a⟩
      | succ i => simp at hi; simpa using ih b i hi
theorem VRL.of_get {m : Mp} {l cl : List Value} (hl : cl.length = l.length) (h : ∀ (i : Nat) (v : Value), l[i]? = some v → ∃ cv, cl[i]? = some cv ∧ VR m v cv) : VRL m l cl := by
  induction l generalizing cl with
  | nil => cases cl with | nil => exact .nil | cons => simp at hl
  | cons x l ih =>
    cases cl with
    | nil => simp at hl
    | cons y cl =>
      obtain ⟨cv, h1, h2⟩ := h 0 x rfl
      simp at h1; subst h1
      exact .cons h2 (ih (by simpa using hl) fun i v hi => by simpa using h (i + 1) v (by simpa using hi))
theorem VRL.scal {m : Mp} {l : List Value} (h : l.all scal = true) : VRL m l l := by
  induction l with
  | nil => exact .nil
  | cons x l ih =>
    simp only [List.all_cons, Bool.and_eq_true] at h
    refine .cons ?_ (ih h.2)
    cases x <;> simp [GE.scal] at h <;> first | exact .bool _ | exact .int _ _ | exact .string _
theorem VR.scal_eq {m : Mp} {v cv : Value} (h : VR m v cv) (hs : scal v = true) : cv = v := by cases h <;> simp [GE.scal] at hs <;> rfl
theorem VR.of_scal {m : Mp} {v : Value} (hs : scal v = true) : VR m v v := by
  cases v <;> simp [GE.scal] at hs <;> first | exact .bool _ | exact .int _ _ | exact .string _
theorem VR.scal_mp {m m2 : Mp} {v cv : Value} (h : VR m v cv) (hs : scal v = true) : VR m2 v cv := by rw [h.scal_eq hs]; exact .of_scal hs
theorem VR.const0 {m : Mp} {v : Value} (h : (match v with | .bool _ | .int _ _ | .string _ | .nilFunc | .nilIface | .pointer none | .map none | .slice none 0 0 => true | _ => false) = true) : VR m v v := by
  split at h <;> first | exact .bool _ | exact .int _ _ | exact .string _ | exact .nilFunc | exact .nilIface | exact .nilPtr | exact .nilMap | exact .nilSlice | cases h
theorem VR.const {m : Mp} {v : Value} (h : constOk v = true) : VR m v v := by
  unfold constOk at h
  split at h
  · exact .bool _
  · exact .int _ _
  · exact .string _
  · exact .nilFunc
  · exact .nilIface
  · exact .nilPtr
  · exact .nilMap
  · exact .nilSlice
  · rename_i cs
    have : cs = #[] := by simpa using h
    subst this
    exact .tuple .nil
  · rename_i cs
    refine .agg (.of_get rfl fun i v hi => ⟨v, hi, ?_⟩)
    have := List.all_eq_true.1 h v (List.mem_of_getElem? hi)
    exact .const0 this
  · cases h
theorem VR.undef {m : Mp} : VR m undef undef := .tuple .nil
theorem VR.cells {m : Mp} {v cv : Value} (h : VR m v cv) : VRL m v.cells.toList cv.cells.toList := by
  cases h with
  | agg hl => exact hl
  | tuple hl => exact .cons (.tuple hl) .nil
  | bool b => exact .cons (.bool b) .nil
  | int k n => exact .cons (.int k n) .nil
  | string s => exact .cons (.string s) .nil
  | nilFunc => exact .cons .nilFunc .nil
  | nilIface => exact .cons .nilIface .nil
  | nilPtr => exact .cons .nilPtr .nil
  | nilMap => exact .cons .nilMap .nil
  | nilSlice => exact .cons .nilSlice .nil
  | ptr hm => exact .cons (.ptr hm) .nil
  | slice hm h1 h2 h3 h4 => exact .cons (.slice hm h1 h2 h3 h4) .nil
  | nil0 => exact .cons .nil0 .nil
  | map hm => exact .cons (.map hm) .nil
  | func h1 h2 h3 => exact .cons (.func h1 h2 h3) .nil
  | iface t hx => exact .cons (.iface t hx) .nil
theorem VR.cellV {m : Mp} {v cv : Value} (h : VR m v cv) : cellV cv = cellV v := by cases h <;> rfl
theorem VR.tmps {m : Mp} {v cv : Value} (h : VR m v cv) : cv.cells.size = v.cells.size := by
  have := h.cells.length; simpa using this

/-! ### heaps -/
def Blk.live : Blk → Bool
  | .dead => false
  | _ => true
def CellsR (m : Mp) (flat : Bool) (cs : List Value) (cc : Array Value) (sh : Nat) : Prop :=
  ∀ (i : Nat) (v : Value), cs[i]? = some v → (∃ cv, cc[sh + i]? = some cv ∧ VR m v cv) ∧ (flat = true → scal v = true)
def MapR (m : Mp) (es : List (Value × Value)) (ces : List MapEntry) : Prop :=
  ces.length = es.length ∧ ∀ (i : Nat) (k v : Value), es[i]? = some (k, v) → scal k = true ∧ ∃ e : MapEntry, ces[i]? = some e ∧ e.key = k ∧ VR m v e.val
def TmR (m : Mp) (σ : Tm) (tm : Array Value) : Prop := ∀ t v, lk σ t = some v → ∃ cv, tm[t]? = some cv ∧ VR m v cv
structure LoopR (m : Mp) (l : ALoop) (cl : Loop) : Prop where
  state : cl.state = l.state
  pending : cl.pending = l.pending
  fn : cl.fn = l.fn
  tmps : TmR m l.σ cl.tmps
  size : cl.tmps.size = l.size
  params : cl.params = l.params
  assign : cl.assign = l.assign
  body : cl.body = l.body
def BlkR (m : Mp) (blk : Blk) (mb : MB) (w : World) : Prop :=
  match blk with
  | .cells cs e flat own => ∃ cc ct fz, w.heap[mb.blk]? = some (.cells cc ct fz) ∧ cc.size = mb.ext ∧ mb.esz = e ∧ mb.sh + cs.length ≤ mb.ext ∧
      CellsR m flat cs cc mb.sh ∧ (own = true → mb.own = true ∧ ∀ o, o < mb.ext → ¬ (fz.1 ≤ o ∧ o < fz.2))
  | .map es => mb.own = true ∧ ∃ ces ck, w.heap[mb.blk]? = some (.map ces ck) ∧ MapR m es ces.toList
  | .siter s p => (mb.own = true ∧ mb.sh = 0) ∧ w.heap[mb.blk]? = some (.stringIter s p)
  | .loop l => mb.own = true ∧ ∃ cl, w.heap[mb.blk]? = some (.loop cl) ∧ LoopR m l cl
  | .dead => True
structure HR (V : Nat → Prop) (m : Mp) (h : List Blk) (w : World) : Prop where
  dom : ∀ b mb, m b = some mb → b < h.length ∧ mb.blk < w.heap.size
  blk : ∀ b mb blk, V b → m b = some mb → h[b]? = some blk → BlkR m blk mb w
  inj : ∀ b1 b2 mb1 mb2 x1 x2, b1 ≠ b2 → V b1 → V b2 → m b1 = some mb1 → m b2 = some mb2 → h[b1]? = some x1 → h[b2]? = some x2 → x1.live = true → x2.live = true → mb1.own = true → mb1.blk ≠ mb2.blk
def LiveAt (h : List Blk) (b : Nat) : Prop := ∃ x, h[b]? = some x ∧ x.live = true
/-- nothing is told to the world outside -/
structure Quiet (w w' : World) : Prop where
  os : w'.os = w.os
  out : w'.output = w.output
  tape : w'.tape = w.tape
theorem Quiet.refl (w : World) : Quiet w w := ⟨rfl, rfl, rfl⟩
theorem Quiet.trans {a b c : World} (h : Quiet a b) (k : Quiet b c) : Quiet a c := ⟨k.os.trans h.os, k.out.trans h.out, k.tape.trans h.tape⟩
/-- what has become of heap and world, 'wr' being the blocks that were written -/
structure Ext (m : Mp) (n : Nat) (h : List Blk) (w : World) (wr : List Nat) (m' : Mp) (h' : List Blk) (w' : World) : Prop where
  old : ∀ b, b < n → m' b = m b
  size : w.heap.size ≤ w'.heap.size
  same : ∀ cb, cb < w.heap.size → (∀ b mb, b ∈ wr → m b = some mb → mb.own = true → LiveAt h b → mb.blk ≠ cb) → w'.heap[cb]? = w.heap[cb]?
  fresh : ∀ b mb, n ≤ b → m' b = some mb → mb.blk < w.heap.size → ∃ b0 mb0, b0 ∈ wr ∧ m b0 = some mb0 ∧ mb0.own = true ∧ LiveAt h b0 ∧ mb0.blk = mb.blk
  len : n ≤ h'.length
  keep : ∀ b, b < n → b ∉ wr → h'[b]? = h[b]?
  live : ∀ b, b < n → LiveAt h' b → LiveAt h b
  qt : Quiet w w'

theorem CellsR.mono {m m2 : Mp} (hf : ∀ b mb, m b = some mb → m2 b = some mb) {flat : Bool} {cs : List Value} {cc : Array Value} {sh : Nat} (h : CellsR m flat cs cc sh) : CellsR m2 flat cs cc sh :=
  fun i v hi => let ⟨⟨cv, h1, h2⟩, h3⟩ := h i v hi; ⟨⟨cv, h1, h2.mono hf⟩, h3⟩
theorem MapR.mono {m m2 : Mp} (hf : ∀ b mb, m b = some mb → m2 b = some mb) {es : List (Value × Value)} {ces : List MapEntry} (h : MapR m es ces) : MapR m2 es ces :=
  ⟨h.1, fun i k v hi => let ⟨h1, e, h2, h3, h4⟩ := h.2 i k v hi; ⟨h1, e, h2, h3, h4.mono hf⟩⟩
theorem TmR.mono {m m2 : Mp} (hf : ∀ b mb, m b = some mb → m2 b = some mb) {σ : Tm} {tm : Array Value} (h : TmR m σ tm) : TmR m2 σ tm :=
  fun t v ht => let ⟨cv, h1, h2⟩ := h t v ht; ⟨cv, h1, h2.mono hf⟩
theorem LoopR.mono {m m2 : Mp} (hf : ∀ b mb, m b = some mb → m2 b = some mb) {l : ALoop} {cl : Loop} (h : LoopR m l cl) : LoopR m2 l cl :=
  ⟨h.state, h.pending, h.fn, h.tmps.mono hf, h.size, h.params, h.assign, h.body⟩
theorem BlkR.mono {m m2 : Mp} (hf : ∀ b mb, m b = some mb → m2 b = some mb) {blk : Blk} {mb : MB} {w : World} (h : BlkR m blk mb w) : BlkR m2 blk mb w := by
  cases blk with
  | cells cs e flat own => obtain ⟨cc, ct, fz, h1, h2, h3, h4, h5, h6⟩ := h; exact ⟨cc, ct, fz, h1, h2, h3, h4, h5.mono hf, h6⟩
  | map es => obtain ⟨h0, ces, ck, h1, h2⟩ := h; exact ⟨h0, ces, ck, h1, h2.mono hf⟩
  | siter s p => exact h
  | loop l => obtain ⟨h0, cl, h1, h2⟩ := h; exact ⟨h0, cl, h1, h2.mono hf⟩
  | dead => trivial
/-- a block speaks of one block of the machine alone -/
theorem BlkR.world {m : Mp} {blk : Blk} {mb : MB} {w w' : World} (h : BlkR m blk mb w) (hw : w'.heap[mb.blk]? = w.heap[mb.blk]?) : BlkR m blk mb w' := by
  cases blk with
  | cells cs e flat own => obtain ⟨cc, ct, fz, h1, h2⟩ := h; exact ⟨cc, ct, fz, hw.trans h1, h2⟩
  | map es => obtain ⟨h0, ces, ck, h1, h2⟩ := h; exact ⟨h0, ces, ck, hw.trans h1, h2⟩
  | siter s p => exact ⟨h.1, hw.trans h.2⟩
  | loop l => obtain ⟨h0, cl, h1, h2⟩ := h; exact ⟨h0, cl, hw.trans h1, h2⟩
  | dead => trivial
theorem renT_lk {f : Nat → Option Nat} {σ σ' : Tm} (h : renT f σ = some σ') (t : Nat) (v' : Value) (hv : lk σ' t = some v') : ∃ v, lk σ t = some v ∧ renV f dep v = some v' := by
  induction σ generalizing σ' with
  | nil => cases h; simp [lk] at hv
  | cons p r ih =>
    obtain ⟨a, x⟩ := p
    simp only [renT] at h
    split at h
    · rename_i x' r' h1 h2
      cases h
      simp only [lk] at hv ⊢
      rcases cond_eq_some hv with ⟨hb, hx⟩ | ⟨hb, hx⟩
      · cases hx; exact ⟨x, by simp [hb], h1⟩
      · obtain ⟨v, h3, h4⟩ := ih h2 hx; exact ⟨v, by simp [hb, h3], h4⟩
    · cases h
theorem TmR.ren {m m2 : Mp} {f : Nat → Option Nat} (hf : ∀ b b' mb, f b = some b' → m b = some mb → m2 b' = some mb) {σ σ' : Tm} {tm : Array Value} (h : TmR m σ tm) (hr : renT f σ = some σ') : TmR m2 σ' tm := by
  intro t v' hv
  obtain ⟨v, h1, h2⟩ := renT_lk hr t v' hv
  obtain ⟨cv, h3, h4⟩ := h t v h1
  exact ⟨cv, h3, h4.ren hf _ _ h2⟩
theorem renP_get {f : Nat → Option Nat} {es es' : List (Value × Value)} (h : renP f es = some es') : es'.length = es.length ∧ ∀ (i : Nat) (k v' : Value), es'[i]? = some (k, v') → ∃ v, es[i]? = some (k, v) ∧ renV f dep v = some v' := by
  induction es generalizing es' with
  | nil => cases h; simp
  | cons p r ih =>
    obtain ⟨k0, v0⟩ := p
    simp only [renP] at h
    split at h
    · rename_i v1 r1 h1 h2
      cases h
      obtain ⟨h3, h4⟩ := ih h2
      refine ⟨by simp [h3], fun i k v' hi => ?_⟩
      cases i with
      | zero => simp at hi; obtain ⟨rfl, rfl⟩ := hi; exact ⟨v0, rfl, h1⟩
      | succ i => simp at hi; simpa using h4 i k v' hi
    · cases h
theorem BlkR.ren {m m2 : Mp} {f : Nat → Option Nat} (hf : ∀ b b' mb, f b = some b' → m b = some mb → m2 b' = some mb) {blk blk' : Blk} {mb : MB} {w : World} (h : BlkR m blk mb w) (hr : renB f blk = some blk') : BlkR m2 blk' mb w := by
  cases blk with
  | cells cs e flat own =>
    cases flat with
    | true =>
      simp [renB] at hr; subst hr
      obtain ⟨cc, ct, fz, h1, h2, h3, h4, h5, h6⟩ := h
      exact ⟨cc, ct, fz, h1, h2, h3, h4, fun i v hi => let ⟨⟨cv, a1, a2⟩, a3⟩ := h5 i v hi; ⟨⟨cv, a1, a2.scal_mp (a3 rfl)⟩, a3⟩, h6⟩
    | false =>
      simp only [renB, Option.map_eq_some_iff] at hr
      obtain ⟨l, hl, rfl⟩ := hr
      obtain ⟨cc, ct, fz, h1, h2, h3, h4, h5, h6⟩ := h
      refine ⟨cc, ct, fz, h1, h2, h3, by rw [optAll_length hl]; exact h4, fun i v hi => ?_, h6⟩
      obtain ⟨v0, e1, e2⟩ := optAll_get' hl i v hi
      obtain ⟨⟨cv, a1, a2⟩, _⟩ := h5 i v0 e1
      exact ⟨⟨cv, a1, a2.ren hf _ _ e2⟩, fun h => by cases h⟩
  | map es =>
    simp only [renB, Option.map_eq_some_iff] at hr
    obtain ⟨es', he, rfl⟩ := hr
    obtain ⟨h0, ces, ck, h1, h2, h3⟩ := h
    obtain ⟨g1, g2⟩ := renP_get he
    refine ⟨h0, ces, ck, h1, by rw [h2, g1], fun i k v hi => ?_⟩
    obtain ⟨v0, e1, e2⟩ := g2 i k v hi
    obtain ⟨a1, e, a2, a3, a4⟩ := h3 i k v0 e1
    exact ⟨a1, e, a2, a3, a4.ren hf _ _ e2⟩
  | siter s p => simp [renB] at hr; subst hr; exact h
  | loop l =>
    simp only [renB, Option.map_eq_some_iff] at hr
    obtain ⟨s, hs, rfl⟩ := hr
    obtain ⟨h0, cl, h1, h2⟩ := h
    exact ⟨h0, cl, h1, ⟨h2.state, h2.pending, h2.fn, h2.tmps.ren hf hs, h2.size, h2.params, h2.assign, h2.body⟩⟩
  | dead => simp [renB] at hr; subst hr; trivial
theorem renB_live {f : Nat → Option Nat} {blk blk' : Blk} (hr : renB f blk = some blk') : blk'.live = blk.live := by
  cases blk with
  | cells cs e flat own => cases flat <;> simp [renB] at hr <;> (try (obtain ⟨l, _, rfl⟩ := hr)) <;> (try subst hr) <;> rfl
  | map es => simp [renB] at hr; obtain ⟨l, _, rfl⟩ := hr; rfl
  | siter s p => simp [renB] at hr; subst hr; rfl
  | loop l => simp [renB] at hr; obtain ⟨s, _, rfl⟩ := hr; rfl
  | dead => simp [renB] at hr; subst hr; rfl

theorem Ext.refl (m : Mp) (h : List Blk) (w : World) (hd : ∀ b mb, m b = some mb → b < h.length) : Ext m h.length h w [] m h w where
  old _ _ := rfl
  size := Nat.le_refl _
  same _ _ _ := rfl
  fresh b mb hb hm _ := absurd (hd b mb hm) (by omega)
  len := Nat.le_refl _
  keep _ _ _ := rfl
  live _ _ hl := hl
  qt := .refl w
/-- an extension behind an extension; the second one's writes are those below n, and others -/
theorem Ext.trans {m m1 m2 : Mp} {n n1 : Nat} {h h1 h2 : List Blk} {w w1 w2 : World} {wr wr1 wr2 : List Nat} (a : Ext m n h w wr m1 h1 w1) (b : Ext m1 n1 h1 w1 wr1 m2 h2 w2)
    (hn : n ≤ n1) (h12 : ∀ x, x ∈ wr → x ∈ wr2) (h22 : ∀ x, x ∈ wr1 → x < n → x ∈ wr2) : Ext m n h w wr2 m2 h2 w2 where
  old x hx := (b.old x (Nat.lt_of_lt_of_le hx hn)).trans (a.old x hx)
  size := Nat.le_trans a.size b.size
  same cb hc ht := by
    rw [b.same cb (Nat.lt_of_lt_of_le hc a.size) ?_, a.same cb hc fun x mb hx => ht x mb (h12 x hx)]
    intro x mb hx hm ho hl he
    by_cases hxn : x < n
    · exact ht x mb (h22 x hx hxn) ((a.old x hxn).symm.trans hm) ho (a.live x hxn hl) he
    · obtain ⟨b0, mb0, i1, i2, i3, i4, i5⟩ := a.fresh x mb (by omega) hm (he ▸ hc)
      exact ht b0 mb0 (h12 b0 i1) i2 i3 i4 (i5.trans he)
  fresh x mb hx hm hs := by
    by_cases hxn : x < n1
    · obtain ⟨b0, mb0, i1, i2⟩ := a.fresh x mb hx ((b.old x hxn).symm.trans hm) hs
      exact ⟨b0, mb0, h12 b0 i1, i2⟩
    · obtain ⟨b0, mb0, i1, i2, i3, i4, i5⟩ := b.fresh x mb (by omega) hm (Nat.lt_of_lt_of_le hs a.size)
      by_cases hb0 : b0 < n
      · exact ⟨b0, mb0, h22 b0 i1 hb0, (a.old b0 hb0).symm.trans i2, i3, a.live b0 hb0 i4, i5⟩
      · obtain ⟨c0, mc0, j1, j2, j3, j4, j5⟩ := a.fresh b0 mb0 (by omega) i2 (by omega)
        exact ⟨c0, mc0, h12 c0 j1, j2, j3, j4, j5.trans i5⟩
  len := Nat.le_trans hn b.len
  keep x hx hn2 := by
    rw [b.keep x (Nat.lt_of_lt_of_le hx hn) (fun hh => hn2 (h22 x hh hx)), a.keep x hx fun hh => hn2 (h12 x hh)]
  live x hx hl := a.live x hx (b.live x (Nat.lt_of_lt_of_le hx hn) hl)
  qt := a.qt.trans b.qt

end Go.GE
