/-
  A table of contracts of Go's library for the evaluator: strings.Repeat, strings.ContainsRune, copyCheck and String of strings.Builder. No condition.
-/
import Derived.Test.YtjimphlkhjmaiaaT1
import Derived.Test.YtjimphlkhjmaiaaE22
set_option autoImplicit false
set_option linter.unusedVariables false
set_option linter.unusedSimpArgs false
namespace Go.Proofs.Ytjimphlkhjmaiaa.sh
open Go.GE
variable {m : Mp} {h : List Blk} {w : World}
/-! ### from a contract to what a table's entry must tell -/
theorem hr_grow {V : Nat → Prop} {w' : World} (hr : HR V m h w) (hs : w.heap.size ≤ w'.heap.size) (hw : ∀ k, k < w.heap.size → w'.heap[k]? = w.heap[k]?) : HR V m h w' where
  dom b mb hm := ⟨(hr.dom b mb hm).1, Nat.lt_of_lt_of_le (hr.dom b mb hm).2 hs⟩
  blk b mb blk hv hm hb := (hr.blk b mb blk hv hm hb).world (hw _ (hr.dom b mb hm).2)
  inj := hr.inj
/-- what a table's entry must tell of one call -/
def One (f : FuncId) (args : List Value) (h : List Blk) (rr : RR) : Prop := ∀ m w (cargs : Array Value), HR (fun _ => True) m h w → VRL m args cargs.toList → Enters Try.prog f ∧ ∀ cs,
  ∃ cv w' m', Lv Try.prog f cargs w cv w' cs ∧ VR m' rr.v cv ∧ HR (fun _ => True) m' (rr.app h) w' ∧ Ext m h.length h w (rr.ws.map (·.1)) m' (rr.app h) w' ∧ WsOk h.length rr.ws
theorem one_below {f : FuncId} {args : List Value} {v : Value} (he : Enters Try.prog f) (hs : args.all scal = true) (hv : scal v = true) (hc : ∀ w, Calls Try.prog f args.toArray w fun e w' => e = .returned v ∧ RowKit.Below w.heap.size w w') : One f args h ⟨v, [], []⟩ := by
  intro m w cargs hr hl
  refine ⟨he, fun cs => ?_⟩
  have hca : cargs = args.toArray := by
    apply Array.toList_inj.1
    have key : ∀ {l cl : List Value}, VRL m l cl → l.all scal = true → cl = l := by
      intro l
      induction l with
      | nil => intro cl h _; cases h; rfl
      | cons a l ih =>
        intro cl h h2
        simp only [List.all_cons, Bool.and_eq_true] at h2
        cases h with
        | cons x1 x2 => rw [x1.scal_eq h2.1, ih x2 h2.2]
    simpa using key hl hs
  subst hca
  obtain ⟨e, w', fr, ⟨rfl, hb⟩, h1, h2, h3⟩ := hc w cs
  have happ : RR.app h ⟨v, [], []⟩ = h := by simp [RR.app]
  rw [happ]
  refine ⟨v, w', m, ⟨fr, h1, h2, h3⟩, .of_scal hv, hr_grow hr hb.size hb.block, ⟨fun _ _ => rfl, hb.size, fun k hk _ => hb.block k hk, fun b mb hb' hm _ => absurd (hr.dom b mb hm).1 (by omega), Nat.le_refl _, fun _ _ _ => rfl, fun _ _ h => h, ⟨hb.os, hb.output, hb.tape⟩⟩, ⟨fun i x hx => by simp at hx, fun i x y hx => by simp at hx⟩⟩
theorem in56 : Enters Try.prog 56 := Go.Proofs.enters_of Try.func56 (by kernel_rfl) rfl
theorem in57 : Enters Try.prog 57 := Go.Proofs.enters_of Try.func57 (by kernel_rfl) rfl
theorem in61 : Enters Try.prog 61 := Go.Proofs.enters_of Try.func61 (by kernel_rfl) rfl
theorem in52 : Enters Try.prog 52 := Go.Proofs.enters_of Try.func52 (by kernel_rfl) rfl

/-! ### Repeat, ContainsRune -/
def repT : List Value → List Blk → Option RR
  | [.string s, .int .i64 c], [] => if 0 ≤ c ∧ s.size * c.toNat ≤ 2 ^ 40 ∧ c ≤ 2 ^ 40 then some ⟨.string ⟨(Lib.repeatL s.data.toList c.toNat).toArray⟩, [], []⟩ else none
  | _, _ => none
theorem repT_ok {args : List Value} {rr : RR} (he : repT args h = some rr) : One 56 args h rr := by
  unfold repT at he
  split at he
  · rename_i s c
    split at he
    · rename_i hc
      cases he
      refine one_below in56 (by simp [scal]) rfl fun w => ?_
      have := strings_Repeat s c.toNat w (by omega) (by omega)
      rw [show ((c.toNat : Nat) : Int) = c by omega] at this
      exact this
    · cases he
  · cases he
def conT : List Value → List Blk → Option RR
  | [.string s, .int .i32 r], [] => if 0 ≤ r ∧ r < 128 then some ⟨.bool (decide (0 ≤ Lib.indexByte s.data.toList r.toNat.toUInt8)), [], []⟩ else none
  | _, _ => none
theorem conT_ok {args : List Value} {rr : RR} (he : conT args h = some rr) : One 57 args h rr := by
  unfold conT at he
  split at he
  · rename_i s r
    split at he
    · rename_i hc
      cases he
      refine one_below in57 (by simp [scal]) rfl fun w => ?_
      refine (strings_ContainsRune_ascii s r w hc.1 hc.2).mono ?_
      rintro e w' ⟨rfl, rfl⟩
      exact ⟨rfl, RowKit.Below.refl _ _⟩
    · cases he
  · cases he

/-! ### copyCheck -/
def cpyT : List Value → List Blk → Option RR
  | [.pointer (some ⟨0, 0, none⟩)], .typed [p, s] 73 2 :: _ => match p with
    | .pointer none => some ⟨undef, [], [(0, .typed [ptrTo 0, s] 73 2)]⟩
    | .pointer (some ⟨0, 0, none⟩) => some ⟨undef, [], []⟩
    | _ => none
  | _, _ => none
theorem cell_w {b : Nat} {cc : Array Value} {t : TypeId} {fz : Nat × Nat} (h : w.heap[b]? = some (.cells cc t fz)) (o : Nat) : w.cell? ⟨b, o, none⟩ = cc[o]? := by simp [World.cell?, h]
theorem cpyT_ok {args : List Value} {rr : RR} (he : cpyT args h = some rr) : One 61 args h rr := by
  unfold cpyT at he
  split at he
  · rename_i p s rest
    intro m w cargs hr hl
    refine ⟨in61, fun cs => ?_⟩
    obtain ⟨cp, rfl⟩ : ∃ cp, cargs = #[cp] := by
      have := hl.length
      obtain ⟨l⟩ := cargs
      match l, this with
      | [x], _ => exact ⟨x, rfl⟩
    have hp : VR m (.pointer (some ⟨0, 0, none⟩)) cp := by cases hl with | cons a _ => exact a
    obtain ⟨mb, hm, rfl⟩ := vr_ptr_inv hp
    obtain ⟨⟨hown, hsh⟩, cc, k1, k2, k3, k4, k5, _, k6⟩ := typed_blk hr trivial hm (show (Blk.typed [p, s] 73 2 :: rest)[0]? = _ from rfl)
    have k5 := k5 (by decide)
    rw [hsh]
    obtain ⟨⟨v0, e0, r0⟩, _⟩ := k6 0 p rfl
    obtain ⟨⟨v1, e1, r1⟩, _⟩ := k6 1 s rfl
    simp only [Nat.zero_add] at e0 e1
    split at he
    · cases he
      cases r0
      obtain ⟨e, w', fr, ⟨rfl, rfl⟩, h1, h2, h3⟩ := copy_fresh mb.blk w (by rw [cell_w k1, e0]) (by simp [World.shape?, k1]; omega) (by simp [World.frozen?, k1]) cs
      have hw : (w.setCell ⟨mb.blk, 0, none⟩ (.pointer (some ⟨mb.blk, 0, none⟩))).heap[mb.blk]? = some (.cells (cc.setIfInBounds 0 (.pointer (some ⟨mb.blk, 0, none⟩))) 73 (0, 0)) := by
        simp [World.setCell, Array.getElem?_modify, k1]
      have hput := hr.put (w' := w.setCell ⟨mb.blk, 0, none⟩ (.pointer (some ⟨mb.blk, 0, none⟩))) (b := 0) (blk := .typed [ptrTo 0, s] 73 2) trivial hm rfl rfl hown (by simp [World.setCell]) (fun c hc => by
          simp [World.setCell, Array.getElem?_modify, Ne.symm hc]) ⟨⟨hown, hsh⟩, _, hw, by simpa using k2, k3, k4, fun _ => k5, trivial, fun i v hi => by
          match i, hi with
          | 0, hi =>
            simp at hi; subst hi
            refine ⟨⟨_, by rw [Nat.zero_add, Array.getElem?_setIfInBounds_self_of_lt (by omega)], ?_⟩, fun h => by cases h⟩
            have := VR.ptr (m := m) (o := 0) hm
            rw [hsh] at this
            exact this
          | 1, hi =>
            simp at hi; subst hi
            exact ⟨⟨v1, by simpa [Array.getElem?_setIfInBounds] using e1, r1⟩, fun h => by cases h⟩⟩ ⟨rfl, rfl, rfl⟩
      have happ : RR.app (Blk.typed [.pointer none, s] 73 2 :: rest) ⟨undef, [], [(0, .typed [ptrTo 0, s] 73 2)]⟩ = (Blk.typed [.pointer none, s] 73 2 :: rest).set 0 (.typed [ptrTo 0, s] 73 2) := by simp [RR.app]
      rw [happ]
      exact ⟨_, _, m, ⟨fr, h1, h2, h3⟩, .undef, hput.1, hput.2, ⟨fun i x hx => by simp at hx; simp; omega, fun i x y hx hy => by simp at hx hy; rw [hx.2, hy.2]⟩⟩
    · cases he
      obtain ⟨mb', hm', rfl⟩ := vr_ptr_inv r0
      rw [hm] at hm'; cases hm'
      rw [hsh] at e0
      obtain ⟨e, w', fr, ⟨rfl, rfl⟩, h1, h2, h3⟩ := copy_used mb.blk w (by rw [cell_w k1, e0]) cs
      have happ : ∀ H : List Blk, RR.app H ⟨undef, [], []⟩ = H := fun H => by simp [RR.app]
      rw [happ]
      exact ⟨_, _, m, ⟨fr, h1, h2, h3⟩, .undef, hr, .refl m _ _ fun b mb hb => (hr.dom b mb hb).1, ⟨fun i x hx => by simp at hx, fun i x y hx => by simp at hx⟩⟩
    · cases he
  · cases he
end Go.Proofs.Ytjimphlkhjmaiaa.sh
