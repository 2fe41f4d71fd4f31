/-
  GE, part 39: arguments that a law's row hands over: data of integers alone, slices of such data (nil is told as an empty slice).
-/
import Derived.Test.YtkmompbfcgjgmaaE38
import Derived.OpenShut
set_option autoImplicit false
set_option linter.unusedVariables false
set_option linter.unusedSimpArgs false
namespace Go.GE
open Go.ChangeShapes Go.WideShapes Go.RowKit
variable {P : Program}
/-- the kinds of a type's cells, if all are integers -/
def kindsF (P : Program) (g : TypeId → Option (List IntKind)) : Nat → List Field → Option (List IntKind)
  | _, [] => some []
  | off, f :: r => match g f.type with
    | some ks => if f.offset = off ∧ P.cellsOf f.type = ks.length then (kindsF P g (off + ks.length) r).map (ks ++ ·) else none
    | none => none
def kindsT (P : Program) : Nat → TypeId → Option (List IntKind)
  | 0, _ => none
  | d + 1, t => match P.underlying t with
    | some (.int k) => some [k]
    | some (.struct fs) => match kindsF P (kindsT P d) 0 fs.toList with
      | some ks => if P.cellsOf t = ks.length then some ks else none
      | none => none
    | some (.array n e) => match kindsT P d e with
      | some ks => if P.cellsOf e = ks.length ∧ P.cellsOf t = n * ks.length then some (List.replicate n ks).flatten else none
      | none => none
    | _ => none
/-- integers as cells of these kinds -/
def ints (ks : List IntKind) (zs : List Int) : List Value := List.zipWith (fun k z => .int k z) ks zs
def wfs (ks : List IntKind) (zs : List Int) : Prop := zs.length = ks.length ∧ ∀ (i : Nat) k z, ks[i]? = some k → zs[i]? = some z → (Lit.int k z).wf = true
theorem ints_len {ks : List IntKind} {zs : List Int} (h : zs.length = ks.length) : (ints ks zs).length = ks.length := by simp [ints, h]
theorem wfs.app {k1 k2 : List IntKind} {z1 z2 : List Int} (h1 : wfs k1 z1) (h2 : wfs k2 z2) : wfs (k1 ++ k2) (z1 ++ z2) := by
  refine ⟨by simp [h1.1, h2.1], fun i k z hk hz => ?_⟩
  by_cases hi : i < k1.length
  · rw [List.getElem?_append_left hi] at hk
    rw [List.getElem?_append_left (by rw [h1.1]; exact hi)] at hz
    exact h1.2 i k z hk hz
  · rw [List.getElem?_append_right (by omega)] at hk
    rw [List.getElem?_append_right (by rw [h1.1]; omega), h1.1] at hz
    exact h2.2 _ k z hk hz
theorem ints_app {k1 k2 : List IntKind} {z1 z2 : List Int} (h : z1.length = k1.length) : ints (k1 ++ k2) (z1 ++ z2) = ints k1 z1 ++ ints k2 z2 := by
  simp only [ints]; exact List.zipWith_append h.symm
section
variable {H : Type} {enc : TypeId × Value → H} {w : World} {base : Nat} {spare : Nat → Bool} {held : Bool}
theorem open_flat : ∀ (d : Nat) (t : TypeId) (ks : List IntKind) (fuel : Nat) (cs : List Value) (x : DataW H × List MemPlace), kindsT P d t = some ks → DataW.trod enc P w base spare held fuel t cs = some x → ∃ zs, cs = ints ks zs ∧ wfs ks zs := by
  intro d
  induction d with
  | zero => intro t ks fuel cs x hk; simp [kindsT] at hk
  | succ d ih =>
    intro t ks fuel cs x hk h
    unfold kindsT at hk
    split at hk
    · rename_i k hu
      cases hk
      obtain ⟨n, rfl, _, hw⟩ := DataW.trod_int hu h
      refine ⟨[n], rfl, rfl, fun i k z h1 h2 => ?_⟩
      cases i with
      | zero => simp at h1 h2; subst h1; subst h2; exact hw
      | succ i => simp at h1
    · rename_i fs hu
      split at hk
      · rename_i ks' hf
        split at hk
        · rename_i hc
          cases hk
          obtain ⟨xs, n, _, _, hl, hlen, hx⟩ := DataW.trod_struct hu h
          have key : ∀ (r : List Field) (off j : Nat) (ks : List IntKind), kindsF P (kindsT P d) off r = some ks → fs.toList.drop j = r → off + ks.length ≤ cs.length → ∃ zs, (cs.drop off).take ks.length = ints ks zs ∧ wfs ks zs := by
            intro r
            induction r with
            | nil => intro off j ks hk _ _; simp [kindsF] at hk; subst hk; exact ⟨[], by simp [ints], rfl, fun i k z h1 => by simp at h1⟩
            | cons f r ihr =>
              intro off j ks hk hd hle
              unfold kindsF at hk
              split at hk
              · rename_i k1 hk1
                split at hk
                · rename_i hoff
                  rw [Option.map_eq_some_iff] at hk
                  obtain ⟨k2, hk2, rfl⟩ := hk
                  have hj : fs[j]? = some f := by
                    have : (fs.toList.drop j)[0]? = some f := by rw [hd]; rfl
                    simpa using this
                  have hjl : j < xs.length := by rw [hlen]; exact (Array.getElem?_eq_some_iff.1 hj).1
                  have h1 := hx j f hj
                  rw [List.getElem?_eq_getElem hjl, hoff.1, hoff.2] at h1
                  obtain ⟨z1, e1, w1⟩ := ih _ _ _ _ _ hk1 h1
                  rw [List.length_append] at hle
                  obtain ⟨z2, e2, w2⟩ := ihr (off + k1.length) (j + 1) k2 hk2 (by
                    rw [← List.drop_drop, hd]; rfl) (by omega)
                  refine ⟨z1 ++ z2, ?_, w1.app w2⟩
                  rw [ints_app w1.1, ← e1, ← e2, List.length_append, List.take_add, List.drop_drop]
                · cases hk
              · cases hk
          obtain ⟨zs, e, hw⟩ := key fs.toList 0 0 ks hf rfl (by omega)
          refine ⟨zs, ?_, hw⟩
          rw [← e, List.drop_zero, List.take_of_length_le (by omega)]
        · cases hk
      · cases hk
    · rename_i n e hu
      split at hk
      · rename_i ke hke
        split at hk
        · rename_i hc
          cases hk
          obtain ⟨xs, m, _, _, hl, hlen, hx⟩ := DataW.trod_array hu h
          have key : ∀ (q i : Nat), i + q = n → ∃ zs, (cs.drop (i * ke.length)).take (q * ke.length) = ints (List.replicate q ke).flatten zs ∧ wfs (List.replicate q ke).flatten zs := by
            intro q
            induction q with
            | zero => intro i hi; exact ⟨[], by simp [ints], rfl, fun i k z h1 => by simp at h1⟩
            | succ q ihq =>
              intro i hi
              have h1 := hx i (by omega)
              rw [List.getElem?_eq_getElem (by omega), hc.1] at h1
              obtain ⟨z1, e1, w1⟩ := ih _ _ _ _ _ hke h1
              obtain ⟨z2, e2, w2⟩ := ihq (i + 1) (by omega)
              refine ⟨z1 ++ z2, ?_, ?_⟩
              · rw [List.replicate_succ, List.flatten_cons, ints_app w1.1, ← e1, ← e2, show (q + 1) * ke.length = ke.length + q * ke.length by rw [Nat.add_mul]; omega, List.take_add, List.drop_drop]
                rw [show i * ke.length + ke.length = (i + 1) * ke.length by rw [Nat.add_mul]; omega]
              · rw [List.replicate_succ, List.flatten_cons]; exact w1.app w2
          obtain ⟨zs, e, hw⟩ := key n 0 (by omega)
          refine ⟨zs, ?_, hw⟩
          rw [← e, Nat.zero_mul, List.drop_zero, List.take_of_length_le (by omega)]
        · cases hk
      · cases hk
    · cases hk
end
/-! ### windows, of which some stand for nil -/
def mpO (ws : List (Option MB)) : Mp := fun b => (ws[b]?).join
inductive WinsO (w : World) : List (Option MB) → List Blk → Prop
  | nil : WinsO w [] []
  | cons {mb : MB} {blk : Blk} {ws : List (Option MB)} {h : List Blk} : Win w mb blk → WinsO w ws h → WinsO w (some mb :: ws) (blk :: h)
  | none {blk : Blk} {ws : List (Option MB)} {h : List Blk} : WinsO w ws h → WinsO w (none :: ws) (blk :: h)
def WinO (w : World) (mb : Option MB) (blk : Blk) : Prop := match mb with | some mb => Win w mb blk | none => True
theorem WinsO.cons' {w : World} {mb : Option MB} {blk : Blk} {ws : List (Option MB)} {h : List Blk} (h1 : WinO w mb blk) (h2 : WinsO w ws h) : WinsO w (mb :: ws) (blk :: h) := by
  cases mb with
  | some mb => exact .cons h1 h2
  | none => exact .none h2
theorem WinsO.get {w : World} {ws : List (Option MB)} {h : List Blk} (hw : WinsO w ws h) (b : Nat) (mb : MB) (hb : mpO ws b = some mb) : ∃ blk, h[b]? = some blk ∧ Win w mb blk := by
  induction hw generalizing b with
  | nil => simp [mpO] at hb
  | cons h1 _ ih =>
    cases b with
    | zero => simp [mpO] at hb; subst hb; exact ⟨_, rfl, h1⟩
    | succ b => simpa using ih b (by simpa [mpO] using hb)
  | none _ ih =>
    cases b with
    | zero => simp [mpO] at hb
    | succ b => simpa using ih b (by simpa [mpO] using hb)
theorem WinsO.hr {w : World} {ws : List (Option MB)} {h : List Blk} (hw : WinsO w ws h) : HR (fun _ => True) (mpO ws) h w := by
  refine ⟨fun b mb hm => ?_, fun b mb blk _ hm hb => ?_, fun b1 b2 mb1 mb2 x1 x2 hne _ _ h1 h2 e1 e2 l1 l2 ho => ?_⟩
  · obtain ⟨blk, h1, h2⟩ := hw.get b mb hm
    exact ⟨(List.getElem?_eq_some_iff.1 h1).1, h2.2.1⟩
  · obtain ⟨blk', h1, h2⟩ := hw.get b mb hm
    rw [h1] at hb; cases hb
    exact h2.2.2.mono fun b mb h => by cases h
  · obtain ⟨blk', h1', h2'⟩ := hw.get b1 mb1 h1
    rw [h2'.1] at ho; cases ho
theorem WinsO.own {w : World} {ws : List (Option MB)} {h : List Blk} (hw : WinsO w ws h) : ∀ b mb, mpO ws b = some mb → mb.own = false := by
  intro b mb hm
  obtain ⟨blk, _, h2⟩ := hw.get b mb hm
  exact h2.1
section
variable {H : Type} {enc : TypeId × Value → H} {w : World}
theorem ints_scal {ks : List IntKind} {zs : List Int} : ∀ v ∈ ints ks zs, scal v = true := by
  intro v hv
  unfold ints at hv
  obtain ⟨i, hi⟩ := List.getElem?_of_mem hv
  rw [List.getElem?_zipWith] at hi
  split at hi <;> first | (cases hi; rfl) | cases hi
theorem VR_scal {m : Mp} {v : Value} (h : scal v = true) : VR m v v := by
  have := VRL.scal (m := m) (l := [v]) (by simp [h])
  cases this with | cons h1 _ => exact h1
/-- a slice of data of integers, as a window (nil: an empty one) -/
theorem open_slice_flat {t e : TypeId} {ks : List IntKind} {r : Reach} {b0 base d : Nat} {fuel : Nat} {v : Value} {x : DataW H × List MemPlace} (ht : P.underlying t = some (.slice e)) (he : kindsT P d e = some ks) (hc : P.cellsOf e = ks.length) (hk0 : 0 < ks.length)
    (hv : Cell.okWide P w r b0 t v) (h : DataW.trod enc P w base (fun _ => true) true fuel t [v] = some x) :
    ∃ (zs : List (List Int)) (mb : Option MB), WinO w mb (.cells (zs.flatMap (ints ks)) ks.length true false) ∧
      (∀ (m : Mp) (b : Nat), m b = mb → VR m (.slice (some ⟨b, 0, none⟩) zs.length zs.length) v) ∧ (∀ z ∈ zs, wfs ks z) ∧ zs.length ≤ maxLen := by
  rcases DataW.trod_slice ht h with ⟨h0, _⟩ | ⟨a, len, cap, elems, rest, n, _, hcs, _, hb, hl, hm, hlen, hel, hsp, hns⟩
  · refine ⟨[], none, trivial, fun m b _ => ?_, by simp, Nat.zero_le _⟩
    obtain rfl : v = .slice none 0 0 := by simpa using h0
    exact .nil0
  · obtain rfl : v = .slice (some a) len cap := by simpa using hcs
    have hok : Cell.ok P w r b0 t (.slice (some a) len cap) := by
      have := hv
      unfold Cell.okWide at this
      rw [ht] at this
      exact this
    unfold Cell.ok at hok
    rw [ht] at hok
    obtain ⟨_, _, _, hsp', row, cells, hsh, _⟩ := hok
    obtain ⟨blk, off, spot⟩ := a
    have hsp'' : spot = none := hsp'
    subst hsp''
    have hblk : ∃ cc ct fz, w.heap[blk]? = some (.cells cc ct fz) := by
      unfold World.shape? at hsh
      split at hsh
      · rename_i c el fz hh
        exact ⟨_, _, _, hh⟩
      · cases hsh
    obtain ⟨cc, ct, fz, hh⟩ := hblk
    have hlt : blk < w.heap.size := (Array.getElem?_eq_some_iff.1 hh).1
    have one : ∀ i, i < len → ∃ z, wfs ks z ∧ ∀ j, j < ks.length → cc[off + i * ks.length + j]? = (ints ks z)[j]? := by
      intro i hi
      have h1 := hel i hi
      rw [List.getElem?_eq_getElem (by omega), Option.bind_eq_some_iff] at h1
      obtain ⟨cs', e1, e2⟩ := h1
      obtain ⟨z, rfl, hw⟩ := open_flat _ _ _ _ _ _ he e2
      refine ⟨z, hw, fun j hj => ?_⟩
      have := (World.cells?_some e1).2.2 j (by rw [hc]; exact hj)
      rw [← this, hc]
      have e : ((⟨blk, off, none⟩ : Addr).add (i * ks.length)).add j = ⟨blk, off + i * ks.length + j, none⟩ := by
        have ad : ∀ (o q : Nat), (⟨blk, o, none⟩ : Addr).add q = ⟨blk, o + q, none⟩ := by
          intro o q; unfold Addr.add; split
          · rename_i h0; subst h0; rfl
          · rfl
        rw [ad, ad]
      rw [e]
      unfold World.cell?
      simp [hh]
    have all : ∀ q, q ≤ len → ∃ zs : List (List Int), zs.length = q ∧ (∀ z ∈ zs, wfs ks z) ∧ ∀ i z, zs[i]? = some z → ∀ j, j < ks.length → cc[off + i * ks.length + j]? = (ints ks z)[j]? := by
      intro q
      induction q with
      | zero => intro _; exact ⟨[], rfl, by simp, by simp⟩
      | succ q ih =>
        intro hq
        obtain ⟨zs, z1, z2, z3⟩ := ih (by omega)
        obtain ⟨z, y1, y2⟩ := one q (by omega)
        refine ⟨zs ++ [z], by simp [z1], fun u hu => ?_, fun i u hi => ?_⟩
        · rw [List.mem_append, List.mem_singleton] at hu
          rcases hu with hu | rfl
          · exact z2 u hu
          · exact y1
        · by_cases hlt : i < zs.length
          · rw [List.getElem?_append_left hlt] at hi; exact z3 i u hi
          · rw [List.getElem?_append_right (by omega)] at hi
            have : i - zs.length = 0 := by
              have := (List.getElem?_eq_some_iff.1 hi).1
              simp at this; omega
            rw [this] at hi
            simp at hi
            subst hi
            have : i = q := by omega
            subst this
            exact y2
    obtain ⟨zs, z1, z2, z3⟩ := all len (Nat.le_refl _)
    have hfl : (zs.flatMap (ints ks)).length = len * ks.length := by
      have : ∀ l : List (List Int), (∀ z ∈ l, wfs ks z) → (l.flatMap (ints ks)).length = l.length * ks.length := by
        intro l
        induction l with
        | nil => intro _; simp
        | cons a l ih => intro hl; rw [List.flatMap_cons, List.length_append, ih (fun z hz => hl z (by simp [hz])), ints_len (hl a (by simp)).1, List.length_cons, Nat.add_mul]; omega
      rw [this zs z2, z1]
    have hget : ∀ (q : Nat) (v : Value), (zs.flatMap (ints ks))[q]? = some v → cc[off + q]? = some v := by
      have gen : ∀ (l : List (List Int)) (o : Nat), (∀ z ∈ l, wfs ks z) → (∀ i z, l[i]? = some z → ∀ j, j < ks.length → cc[o + i * ks.length + j]? = (ints ks z)[j]?) → ∀ (q : Nat) (v : Value), (l.flatMap (ints ks))[q]? = some v → cc[o + q]? = some v := by
        intro l
        induction l with
        | nil => intro o _ _ q v hq; simp at hq
        | cons a l ih =>
          intro o hw hg q v hq
          have ha := ints_len (hw a (by simp)).1
          rw [List.flatMap_cons] at hq
          by_cases hlt : q < ks.length
          · rw [List.getElem?_append_left (by omega)] at hq
            have := hg 0 a rfl q hlt
            rw [Nat.zero_mul, Nat.add_zero] at this
            rw [this]; exact hq
          · rw [List.getElem?_append_right (by omega), ha] at hq
            have := ih (o + ks.length) (fun z hz => hw z (by simp [hz])) (fun i z hi j hj => by
              have := hg (i + 1) z (by simpa using hi) j hj
              rw [← this]; congr 1; rw [Nat.add_mul]; omega) _ v hq
            rw [← this]; congr 1; omega
      exact gen zs off z2 z3
    refine ⟨zs, some ⟨blk, if len = 0 then 0 else off, cc.size, ks.length, false⟩, ⟨rfl, hlt, cc, ct, fz, hh, rfl, rfl, ?_, ?_, fun h => by cases h⟩, ?_, z2, by omega⟩
    · simp only [hfl]
      split
      · rename_i h0; rw [h0]; omega
      · by_cases hz : len * ks.length = 0
        · have := Nat.mul_eq_zero.1 hz; omega
        · have hq : len * ks.length - 1 < (zs.flatMap (ints ks)).length := by omega
          have := hget _ _ (List.getElem?_eq_getElem hq)
          have := (Array.getElem?_eq_some_iff.1 this).1
          omega
    · intro i v hi
      have hlen0 : len ≠ 0 := by
        intro e
        have := (List.getElem?_eq_some_iff.1 hi).1
        rw [hfl, e] at this; omega
      have hm := List.mem_of_getElem? hi
      rw [List.mem_flatMap] at hm
      obtain ⟨z, hz, hvz⟩ := hm
      simp only [hlen0, if_false]
      exact ⟨⟨v, hget i v hi, VR_scal (ints_scal v hvz)⟩, fun _ => ints_scal v hvz⟩
    · intro m b hmb
      rw [z1]
      refine .slice hmb (fun h => ?_) (Nat.le_refl _) hl (fun h => by cases h)
      simp only [h, if_false, Nat.add_zero]
end
end Go.GE
namespace Go.GE
open Go.ChangeShapes Go.WideShapes Go.RowKit
section
variable {P : Program} {H : Type} {enc : TypeId × Value → H} {w : World}
theorem okWide_slice {t e : TypeId} {r : Reach} {b0 : Nat} {v : Value} (ht : P.underlying t = some (.slice e)) (hv : Value.okWide P w r b0 t v) : Cell.okWide P w r b0 t v ∧ ∃ a n c, v = .slice a n c := by
  have h1 : Cell.okWide P w r b0 t v := by
    have := hv
    unfold Value.okWide at this
    rw [ht] at this
    exact this
  refine ⟨h1, ?_⟩
  unfold Cell.okWide at h1
  rw [ht] at h1
  have h2 : Cell.ok P w r b0 t v := h1
  unfold Cell.ok at h2
  rw [ht] at h2
  cases v <;> first | exact ⟨_, _, _, rfl⟩ | exact h2.elim
/-- a parameter that is a slice of data of integers -/
theorem open_param_flat {t e : TypeId} {ks : List IntKind} {r : Reach} {b0 base d : Nat} {v : Value} {x : DataW H} {p : List MemPlace} (ht : P.underlying t = some (.slice e)) (he : kindsT P d e = some ks) (hc : P.cellsOf e = ks.length) (hk0 : 0 < ks.length)
    (hv : Value.okWide P w r b0 t v) (h : DataW.Trod enc P w base (fun _ => true) true t v x p) :
    ∃ (zs : List (List Int)) (mb : Option MB), WinO w mb (.cells (zs.flatMap (ints ks)) ks.length true false) ∧
      (∀ (m : Mp) (b : Nat), m b = mb → VR m (.slice (some ⟨b, 0, none⟩) zs.length zs.length) v) ∧ (∀ z ∈ zs, wfs ks z) ∧ zs.length ≤ maxLen := by
  obtain ⟨h1, a, n, c, rfl⟩ := okWide_slice ht hv
  obtain ⟨fuel, hf⟩ := h
  exact open_slice_flat ht he hc hk0 h1 hf
end
end Go.GE
