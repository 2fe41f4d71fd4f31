/-
  GE, part 27: arguments that a law's row hands over, as abstract values: windows into blocks that are only read; slices of integers.
-/
import Derived.Test.YtkmompbfcgjgmaaE26
import Derived.ChangeSlices
import Derived.WideKeyArgs
import Derived.Lib.SmallJoins
set_option autoImplicit false
set_option linter.unusedVariables false
set_option linter.unusedSimpArgs false
namespace Go.GE
variable {P : Program}

/-- a window into a block of the machine, that is only read -/
def Win (w : World) (mb : MB) (blk : Blk) : Prop := mb.own = false ∧ mb.blk < w.heap.size ∧ BlkR (fun _ => none) blk mb w
def mpL (ws : List MB) : Mp := fun b => ws[b]?
inductive Wins (w : World) : List MB → List Blk → Prop
  | nil : Wins w [] []
  | cons {mb : MB} {blk : Blk} {ws : List MB} {h : List Blk} : Win w mb blk → Wins w ws h → Wins w (mb :: ws) (blk :: h)
theorem Wins.get {w : World} {ws : List MB} {h : List Blk} (hw : Wins w ws h) (b : Nat) (mb : MB) (hb : ws[b]? = some mb) : ∃ blk, h[b]? = some blk ∧ Win w mb blk := by
  induction hw generalizing b with
  | nil => simp at hb
  | cons h1 _ ih =>
    cases b with
    | zero => simp at hb; subst hb; exact ⟨_, rfl, h1⟩
    | succ b => simp at hb; simpa using ih b hb
theorem Wins.hr {w : World} {ws : List MB} {h : List Blk} (hw : Wins w ws h) : HR (fun _ => True) (mpL ws) h w := by
  refine ⟨fun b mb hm => ?_, fun b mb blk _ hm hb => ?_, fun b1 b2 mb1 mb2 x1 x2 hne _ _ h1 h2 e1 e2 l1 l2 ho => ?_⟩
  · obtain ⟨blk, h1, h2⟩ := hw.get b mb hm
    exact ⟨(List.getElem?_eq_some_iff.1 h1).1, h2.2.1⟩
  · obtain ⟨blk', h1, h2⟩ := hw.get b mb hm
    rw [h1] at hb; cases hb
    exact h2.2.2.mono fun b mb h => by cases h
  · obtain ⟨blk', h1', h2'⟩ := hw.get b1 mb1 h1
    rw [h2'.1] at ho; cases ho
theorem Wins.own {w : World} {ws : List MB} {h : List Blk} (hw : Wins w ws h) : ∀ b mb, mpL ws b = some mb → mb.own = false := by
  intro b mb hm
  obtain ⟨blk, _, h2⟩ := hw.get b mb hm
  exact h2.1
section
open Go.ChangeShapes Go.WideShapes Go.RowKit
variable {H : Type} {enc : TypeId × Value → H} {w : World}
/-- a slice of integers, as a window: its cells are just its elements -/
theorem open_slice_ints {t e : TypeId} {k : IntKind} {r : Reach} {b0 base : Nat} {fuel : Nat} {v : Value} {x : DataW H × List MemPlace} (ht : P.underlying t = some (.slice e)) (he : P.underlying e = some (.int k)) (hc : P.cellsOf e = 1)
    (hv : Cell.okWide P w r b0 t v) (h : DataW.trod enc P w base (fun _ => true) true fuel t [v] = some x) :
    v = .slice none 0 0 ∨ ∃ (zs : List Int) (mb : MB), Win w mb (.cells (zs.map (.int k)) 1 true false) ∧
      (∀ (m : Mp) (b : Nat), m b = some mb → VR m (.slice (some ⟨b, 0, none⟩) zs.length zs.length) v) ∧ (∀ n ∈ zs, (Lit.int k n).wf = true) ∧ zs.length ≤ maxLen := by
  rcases open_ints ht he hc h with ⟨h0, _⟩ | ⟨a, len, cap, zs, hcs, hb, hl, hm, hz, hx, hcell, hwf⟩
  · left; simpa using h0
  · right
    obtain rfl : v = .slice (some a) len cap := by simpa using hcs
    have hok : Cell.ok P w r b0 t (.slice (some a) len cap) := by
      have := hv
      unfold Cell.okWide at this
      rw [ht] at this
      exact this
    unfold Cell.ok at hok
    rw [ht] at hok
    obtain ⟨_, _, _, hsp, row, cells, hsh, _⟩ := hok
    obtain ⟨blk, off, spot⟩ := a
    have hsp' : spot = none := hsp
    subst hsp'
    simp only [if_true] at hz
    have hblk : ∃ cc ct fz, w.heap[blk]? = some (.cells cc ct fz) := by
      unfold World.shape? at hsh
      split at hsh
      · rename_i c el fz hh
        exact ⟨_, _, _, hh⟩
      · cases hsh
    obtain ⟨cc, ct, fz, hh⟩ := hblk
    have hlt : blk < w.heap.size := (Array.getElem?_eq_some_iff.1 hh).1
    have hcc : ∀ i, i < len → cc[off + i]? = some (.int k (zs.getD i 0)) := by
      intro i hi
      have := hcell i (by omega)
      have e : (Addr.add ⟨blk, off, none⟩ i) = ⟨blk, off + i, none⟩ := by
        unfold Addr.add
        split
        · rename_i h0; subst h0; rfl
        · rfl
      rw [e] at this
      unfold World.cell? at this
      simpa [hh] using this
    have hlen : (zs.take len).length = len := by simp; omega
    refine ⟨zs.take len, ⟨blk, if len = 0 then 0 else off, cc.size, 1, false⟩, ⟨rfl, hlt, cc, ct, fz, hh, rfl, rfl, ?_, ?_, fun h => by cases h⟩, ?_, fun n hn => hwf n (List.mem_of_mem_take hn), by omega⟩
    · simp only [List.length_map, hlen]
      split
      · omega
      · have := hcc (len - 1) (by omega)
        have := (Array.getElem?_eq_some_iff.1 this).1
        omega
    · intro i v hi
      simp only [List.getElem?_map, List.getElem?_take] at hi
      split at hi
      · rename_i hil
        have hzi : zs[i]? = some (zs.getD i 0) := by
          rw [List.getD_eq_getElem?_getD, List.getElem?_eq_getElem (by omega)]; rfl
        rw [hzi] at hi
        simp at hi; subst hi
        have : len ≠ 0 := by omega
        simp only [this, if_false]
        exact ⟨⟨_, hcc i hil, .int _ _⟩, fun _ => rfl⟩
      · simp at hi
    · intro m b hmb
      rw [hlen]
      refine .slice (mb := ⟨blk, if len = 0 then 0 else off, cc.size, 1, false⟩) hmb (fun h => ?_) (Nat.le_refl _) hl (fun h => by cases h)
      simp only [h, if_false, Nat.add_zero]
/-- the types of a struct's cells -/
theorem okWide_cell {t : TypeId} {fs : Array Field} {r : Reach} {b0 : Nat} {cs : Array Value} {ts : List TypeId} (ht : P.underlying t = some (.struct fs)) (hts : P.cellTypes P.depth t = some ts) (hv : Value.okWide P w r b0 t (.agg cs)) (i : Nat) (hi : i < ts.length) (v : Value) (hc : cs[i]? = some v) :
    Cell.okWide P w r b0 ts[i] v := by
  simp only [Value.okWide, ht] at hv
  obtain ⟨cs', h1, h2, ts', h3, h4, h5⟩ := hv
  cases h1
  rw [hts] at h3; cases h3
  obtain ⟨u, hu, hk⟩ := h5 i v hc
  rw [Nat.mod_eq_of_lt hi, List.getElem?_eq_getElem hi] at hu
  cases hu
  exact hk
end
end Go.GE
