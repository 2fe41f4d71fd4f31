/-
  The table's last entry (String of strings.Builder), and the table. No condition.
-/
import Derived.Test.YtjimphlkhjmaiaaT2
import Derived.Test.YtjimphlkhjmaiaaRows
set_option autoImplicit false
set_option linter.unusedVariables false
set_option linter.unusedSimpArgs false
namespace Go.Proofs.Ytjimphlkhjmaiaa.sh
open Go.GE
variable {m : Mp} {h : List Blk} {w : World}
/-- bytes, told as cells -/
def bytesX : List Value → Option (List UInt8)
  | [] => some []
  | .int .u8 n :: r => if ((UInt8.ofNat n.toNat).toNat : Int) = n then (bytesX r).map (UInt8.ofNat n.toNat :: ·) else none
  | _ => none
theorem bytesX_spec : ∀ {l : List Value} {bs : List UInt8}, bytesX l = some bs → bs.length = l.length ∧ ∀ (j : Nat) (x : UInt8), bs[j]? = some x → l[j]? = some (Value.int .u8 x.toNat) := by
  intro l
  induction l with
  | nil => intro bs h; cases h; exact ⟨rfl, fun j x hx => by simp at hx⟩
  | cons v l ih =>
    intro bs h
    unfold bytesX at h
    split at h
    · rename_i heq; cases heq
    · rename_i n r heq
      cases heq
      split at h
      · rename_i hn
        simp only [Option.map_eq_some_iff] at h
        obtain ⟨bs', h1, rfl⟩ := h
        obtain ⟨q1, q2⟩ := ih h1
        refine ⟨by simp [q1], fun j x hx => ?_⟩
        cases j with
        | zero =>
          simp only [List.getElem?_cons_zero, Option.some.injEq] at hx
          subst hx
          rw [List.getElem?_cons_zero, hn]
        | succ j => simpa using q2 j x (by simpa using hx)
      · cases h
    · cases h
def strT : List Value → List Blk → Option RR
  | [.pointer (some ⟨0, 0, none⟩)], .typed [_, .slice (some ⟨1, 0, none⟩) l _] 73 2 :: .typed cs 5 0 :: _ => match bytesX (cs.take l) with
    | some bs => if l ≠ 0 ∧ l ≤ cs.length ∧ l ≤ 2 ^ 40 then some ⟨.string ⟨bs.toArray⟩, [], [(1, .dead)]⟩ else none
    | none => none
  | _, _ => none
theorem strT_ok {args : List Value} {rr : RR} (he : strT args h = some rr) : One 52 args h rr := by
  unfold strT at he
  split at he
  · rename_i p l c cs rest
    split at he
    · rename_i bs hbs
      split at he
      · rename_i hc
        obtain ⟨c1, c2, c3⟩ := hc
        cases he
        intro m w cargs hr hl
        refine ⟨in52, fun css => ?_⟩
        obtain ⟨cp, rfl⟩ : ∃ cp, cargs = #[cp] := by
          have := hl.length
          obtain ⟨l⟩ := cargs
          match l, this with
          | [x], _ => exact ⟨x, rfl⟩
        have hp : VR m (.pointer (some ⟨0, 0, none⟩)) cp := by cases hl with | cons a _ => exact a
        obtain ⟨mb, hm, rfl⟩ := vr_ptr_inv hp
        obtain ⟨⟨hown, hsh⟩, cc, k1, k2, k3, k4, k5, _, k6⟩ := typed_blk hr trivial hm (show (Blk.typed [p, .slice (some ⟨1, 0, none⟩) l c] 73 2 :: .typed cs 5 0 :: rest)[0]? = _ from rfl)
        have k5 := k5 (by decide)
        rw [hsh]
        obtain ⟨⟨v0, e0, r0⟩, _⟩ := k6 0 p rfl
        obtain ⟨⟨v1, e1, r1⟩, _⟩ := k6 1 _ rfl
        simp only [Nat.zero_add] at e0 e1
        rcases vr_slice_inv r1 with ⟨rfl, rfl, rfl⟩ | ⟨mb1, co, cap, hm1, g1, g2, g3, g4, rfl⟩
        · exact absurd rfl c1
        obtain ⟨⟨hown1, hsh1⟩, cur, j1, j2, j3, j4, _, _, j6⟩ := typed_blk hr trivial hm1 (show (Blk.typed [p, .slice (some ⟨1, 0, none⟩) l c] 73 2 :: .typed cs 5 0 :: rest)[1]? = _ from rfl)
        have hco := g1 (by omega)
        rw [hsh1] at hco
        subst hco
        obtain ⟨b1, b2⟩ := bytesX_spec hbs
        have bl : bs.length = l := by rw [b1, List.length_take]; omega
        have hcc : cc = #[v0, .slice (some ⟨mb1.blk, 0 + 0, none⟩) l cap] := by
          apply Array.ext_getElem?
          intro i
          match i with
          | 0 => rw [e0]; rfl
          | 1 => rw [e1]; rfl
          | i + 2 => rw [Array.getElem?_eq_none (by omega)]; simp
        subst hcc
        obtain ⟨e, w', fr, ⟨rfl, rfl⟩, h1, h2, h3⟩ := string_exact mb.blk mb1.blk cap v0 cur bs w (by rw [bl]; exact k1) j1 (by omega) (by omega) (by omega) (fun h0 => c1 (by rw [← bl, h0]; rfl)) (fun j x hx => by
          have hj : j < bs.length := (List.getElem?_eq_some_iff.1 hx).1
          have h5 := b2 j x hx
          rw [List.getElem?_take_of_lt (by omega)] at h5
          obtain ⟨⟨cv, a1, a2⟩, _⟩ := j6 j _ h5
          have := a2.scal_eq rfl
          subst this
          simpa using a1) css
        have hfz : w.drew.freeze ⟨mb1.blk, 0, none⟩ bs.length = { w.drew with heap := (w.drew.freeze ⟨mb1.blk, 0, none⟩ bs.length).heap } := by
          unfold World.freeze
          split <;> rfl
        have hput := hr.put (w' := w.drew.freeze ⟨mb1.blk, 0, none⟩ bs.length) (b := 1) (blk := .dead) trivial hm1 rfl rfl hown1 (by
            unfold World.freeze
            split
            · rfl
            · simp) (fun c hc => by
            unfold World.freeze
            split
            · rfl
            · show ((w.drew.heap.modify _ _)[c]? = _)
              rw [Array.getElem?_modify, if_neg (Ne.symm hc)]; rfl) trivial (by
            rw [hfz]
            exact ⟨rfl, rfl, rfl⟩)
        have happ : ∀ v, RR.app (Blk.typed [p, .slice (some ⟨1, 0, none⟩) l c] 73 2 :: .typed cs 5 0 :: rest) ⟨v, [], [(1, .dead)]⟩ = (Blk.typed [p, .slice (some ⟨1, 0, none⟩) l c] 73 2 :: .typed cs 5 0 :: rest).set 1 .dead := fun v => by simp [RR.app]
        rw [happ]
        exact ⟨_, _, m, ⟨fr, h1, h2, h3⟩, .string _, hput.1, hput.2, ⟨fun i x hx => by simp at hx; simp; omega, fun i x y hx hy => by simp at hx hy; rw [hx.2, hy.2]⟩⟩
      · cases he
    · cases he
  · cases he
/-- the table -/
def libT : Tab := ⟨fun f args h => cond (Nat.beq f 56) (repT args h) (cond (Nat.beq f 57) (conT args h) (cond (Nat.beq f 61) (cpyT args h) (cond (Nat.beq f 52) (strT args h) none))), fun _ _ => none⟩
theorem libT_ok : TabOK Try.prog libT := by
  intro f args h rr m w cargs he hr hl
  simp only [libT] at he
  rcases Bool.eq_false_or_eq_true (Nat.beq f 56) with h1 | h1
  · rw [h1] at he
    have := beq_iff.1 h1; subst this
    exact repT_ok he m w cargs hr hl
  rw [h1, cond_false] at he
  rcases Bool.eq_false_or_eq_true (Nat.beq f 57) with h2 | h2
  · rw [h2] at he
    have := beq_iff.1 h2; subst this
    exact conT_ok he m w cargs hr hl
  rw [h2, cond_false] at he
  rcases Bool.eq_false_or_eq_true (Nat.beq f 61) with h3 | h3
  · rw [h3] at he
    have := beq_iff.1 h3; subst this
    exact cpyT_ok he m w cargs hr hl
  rw [h3, cond_false] at he
  rcases Bool.eq_false_or_eq_true (Nat.beq f 52) with h4 | h4
  · rw [h4] at he
    have := beq_iff.1 h4; subst this
    exact strT_ok he m w cargs hr hl
  rw [h4] at he
  cases he
theorem mixed : Try.prog.follows .mixedOrders = true := Try.checked.mixed
end Go.Proofs.Ytjimphlkhjmaiaa.sh
