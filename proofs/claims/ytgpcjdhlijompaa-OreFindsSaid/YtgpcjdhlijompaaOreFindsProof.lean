/-
  OreFinds is true of all fields and blocks: the law's run, for any arguments, over the evaluator GE. No condition.
-/
import Derived.WalkKit
import Derived.ProofKit
import Derived.OpenShut
import Derived.KernelRfl
import Derived.Test.YtgpcjdhlijompaaE28
import Derived.Test.YtgpcjdhlijompaaXK
import Derived.Test.YtgpcjdhlijompaaWk
namespace Go.Proofs.Ytgpcjdhlijompaa.oreFinds
open Go.ChangeShapes Go.WideShapes Go.ChangeAt Go.RowKit
set_option linter.unusedVariables false
set_option linter.unusedSimpArgs false

theorem own : ownKnob Try.prog.godebug = none := by kernel_rfl
section
open Go.GE
set_option maxRecDepth 100000
variable {H : Type} {enc : TypeId × Value → H}
/-- a field as it is handed over -/
theorem open_field {W : World} {base b0 : Nat} {v : Value} {d : DataW H} {p : List MemPlace} (hv : Value.okWide Try.prog W .any b0 24 v) (hd : DataW.Trod enc Try.prog W base (fun _ => true) true 24 v d p) :
    ∃ (w hh o : Int), (v = ore.fvn w hh o) ∨ ∃ (zs : List Int) (mb : MB), Win W mb (.cells (zs.map (.int .i64)) 1 true false) ∧ zs.length ≤ maxLen ∧
      ∀ (m : Mp), m 0 = some mb → VR m (ore.fv w hh o 0 0 zs.length zs.length) v := by
  obtain ⟨c0, c1, c2, c3, y0, y1, y2, y3, n, rfl, _, _, t0, t1, t2, t3⟩ := Joins.open_agg4 Try.underlying24 (by kernel_rfl) (by kernel_rfl) hv hd
  obtain ⟨w, e0, _, _⟩ := DataW.trod_int Try.underlying3 t0
  obtain ⟨hh, e1, _, _⟩ := DataW.trod_int Try.underlying3 t1
  obtain ⟨o, e2, _, _⟩ := DataW.trod_int Try.underlying3 t2
  cases e0; cases e1; cases e2
  refine ⟨w, hh, o, ?_⟩
  have hc : Cell.okWide Try.prog W .any b0 22 c3 := okWide_cell (ts := [3, 3, 3, 22]) Try.underlying24 (by kernel_rfl) hv 3 (by decide) c3 rfl
  rcases open_slice_ints Try.underlying22 Try.underlying3 (by kernel_rfl) hc t3 with rfl | ⟨zs, mb, hw, hvr, _, hl⟩
  · exact .inl rfl
  · refine .inr ⟨zs, mb, hw, hl, fun m hm => ?_⟩
    exact .agg (.cons (.int _ _) (.cons (.int _ _) (.cons (.int _ _) (.cons (hvr m 0 hm) .nil))))
/-- a block as it is handed over -/
theorem open_block {W : World} {base b0 : Nat} {v : Value} {d : DataW H} {p : List MemPlace} (hv : Value.okWide Try.prog W .any b0 35 v) (hd : DataW.Trod enc Try.prog W base (fun _ => true) true 35 v d p) :
    ∃ (a b c d : Int), v = ore.bv a b c d := by
  obtain ⟨c0, c1, c2, c3, y0, y1, y2, y3, n, rfl, _, _, t0, t1, t2, t3⟩ := Joins.open_agg4 Try.underlying35 (by kernel_rfl) (by kernel_rfl) hv hd
  obtain ⟨a, e0, _, _⟩ := DataW.trod_int Try.underlying3 t0
  obtain ⟨b, e1, _, _⟩ := DataW.trod_int Try.underlying3 t1
  obtain ⟨c, e2, _, _⟩ := DataW.trod_int Try.underlying3 t2
  obtain ⟨d, e3, _, _⟩ := DataW.trod_int Try.underlying3 t3
  cases e0; cases e1; cases e2; cases e3
  exact ⟨a, b, c, d, rfl⟩
theorem walk {W : World} {base : Nat} {args : Array Value} {ds : List (DataW H)} {p : List MemPlace} (hval : ∀ (j : Nat) t v, Try.f6.params[j]? = some t → args[j]? = some v → Value.okWide Try.prog W .any base t v)
    (hA : DataW.TrodAll enc Try.prog W 0 (fun _ => true) true Try.f6.params.toList args.toList ds p) :
    Calls Try.prog 6 args W fun e w' => e = .returned (.bool true) ∧ Below W.heap.size W w' := by
  rw [Try.params6] at hA hval
  obtain ⟨v0, vs0, d0, ds0, p0, q0, hargs, rfl, rfl, h0, r0⟩ := trodAll_cons hA
  obtain ⟨v1, vs1, d1, ds1, p1, q1, rfl, rfl, rfl, h1, r1⟩ := trodAll_cons r0
  obtain ⟨rfl, rfl, rfl⟩ := trodAll_nil r1
  obtain rfl : args = #[v0, v1] := by cases args; simp_all
  obtain ⟨X, Y, BW, BH, rfl⟩ := open_block (hval 1 35 v1 rfl rfl) h1
  have hbv : ∀ m : Mp, VR m (ore.bv X Y BW BH) (ore.bv X Y BW BH) := fun m => .agg (.cons (.int _ _) (.cons (.int _ _) (.cons (.int _ _) (.cons (.int _ _) .nil))))
  obtain ⟨w, hh, o, rfl | ⟨zs, mb, hw, _, hvr⟩⟩ := open_field (hval 0 24 v0 rfl rfl) h0
  · exact calls_lim (P := Try.prog) wk.mixed wk.wtab_ok (ore.c6n w hh o X Y BW BH) rfl rfl (GE.hr_nil W) (fun b mb h => by cases h)
      (.cons (.agg (.cons (.int _ _) (.cons (.int _ _) (.cons (.int _ _) (.cons .nilSlice .nil))))) (.cons (hbv _) .nil))
  · have hws : Wins W [mb] [.cells (zs.map (.int .i64)) 1 true false] := .cons hw .nil
    refine calls_lim (P := Try.prog) wk.mixed wk.wtab_ok (ore.c6 w hh o 0 zs.length zs.length X Y BW BH (zs.map (.int .i64)) false (fun i => zs.getD i 0) (fun _ i hi => ?_)) rfl rfl hws.hr hws.own
      (.cons (hvr _ rfl) (.cons (hbv _) .nil))
    rw [Nat.zero_add, List.getElem?_map, List.getElem?_eq_getElem hi, List.getD_eq_getElem?_getD, List.getElem?_eq_getElem hi]
    rfl
end

theorem laid : laidOutB Try.prog = true := by kernel_rfl
theorem rows : (Try.f6.params.toList.all fun t => Try.prog.readableRec t && decide (t < Try.prog.types.size)) = true := by kernel_rfl
set_option maxRecDepth 100000 in
theorem lifted (os : Os) (started : os.Started) (H : Type) (enc : TypeId × Value → H) :
    ReturnsInHanded {} Try.checked os 6 .any (Rows.oreFindsSpec.pre6 enc Try.prog Try.f6 Rows.oreFindsRow.domain false) (Rows.oreFindsSpec.post enc Try.prog Try.f6 false true false false) := by
  refine returnsInHanded_of_change (C := Try.checked) own started (by kernel_rfl) Try.func6
    (ChangeSpec.witness6 (enc := enc) (C := Try.checked) false ⟨#[], #[.agg #[.int .i64 0, .int .i64 0, .int .i64 0, .slice none 0 0], .agg #[.int .i64 0, .int .i64 0, .int .i64 0, .int .i64 0]], []⟩ 8 (by kernel_rfl) (by kernel_rfl) (by kernel_rfl) (by kernel_rfl)) ?_
  intro W base args ds gs before hval0 hW hcnd _
  have hval : ∀ (j : Nat) t v, Try.f6.params[j]? = some t → args[j]? = some v → Value.okWide Try.prog W .any base t v := hval0
  have hW' := hW
  obtain ⟨p, q, hA, hV, hpq, hfz, hnd⟩ := hW
  refine (walk (enc := enc) hval hA).mono fun e W' ⟨he, hg⟩ => ?_
  subst he
  refine ⟨_, rfl, GE.row_post hW' rfl (fun ds hd => ?_) hg laid (fun t ht => ?_) rfl Try.underlying4⟩
  · match ds, hd with
    | [_, _], _ => exact ⟨rfl, rfl, rfl⟩
  · have := List.all_eq_true.1 rows t ht
    simp only [Bool.and_eq_true, decide_eq_true_eq] at this
    exact this

theorem over : Rows.oreFindsRow.holds Try.pinned (OpenSpec.ofChange Rows.oreFindsSpec) :=
  OpenClaim.holds_of_wide 6 Try.f6 rfl rfl rfl rfl rfl rfl rfl ⟨rfl, rfl, rfl, rfl, rfl⟩ rfl rfl rfl rfl rfl (by kernel_rfl) Try.func6 (by kernel_rfl)
    (of_decide_eq_true (by kernel_rfl)) (by unfold Func.isWrapper; first | (rw [if_pos (by decide +kernel)]; kernel_rfl) | (rw [if_neg (by decide +kernel)]; exact ⟨rfl, rfl⟩))
    (fun os started H enc _ => lifted os started H enc)

/-- THE STATEMENT -/
theorem proved : Rows.OreFindsSaid :=
  over
#print axioms proved
end Go.Proofs.Ytgpcjdhlijompaa.oreFinds
