/-
  Contracts of functions of the program at the limit evaluator, continued. No condition.
-/
import Derived.Test.YtiafgimgcbmgaaaRD1
import Derived.OpenShut
import Derived.Test.YtiafgimgcbmgaaaE28
import Derived.Test.YtiafgimgcbmgaaaE38
import Derived.Test.YtiafgimgcbmgaaaE39
import Derived.Test.YtiafgimgcbmgaaaE40
namespace Go.Proofs.Ytiafgimgcbmgaaa.bl
open Go.GE
set_option linter.unusedVariables false
set_option linter.unusedSimpArgs false
set_option maxRecDepth 100000
set_option maxHeartbeats 4000000
/-- each step of the fewest ones is as late as can be -/
theorem few_late {r f : Int} {n : Nat} {l : Nat → Ab} {m : Nat} {st : Nat → Int} (S : Sht r f n l) (ha : Asc m st) (h : clashS r f n l m st (-1) = false) : ∀ j, j < (fewS r f l n).length → st j ≤ inAt (stpsOf l (fewS r f l n)) j := by
  have hmin := few_min S ha h
  obtain ⟨last, G⟩ := fewL_good (r := r) (f := f) (l := l) (n := n) n 0 0 [] (by omega) (by omega) ⟨by simp, by simp, by simp⟩
  rw [← fewS] at G
  generalize fewS r f l n = a at *
  have hno : ∀ i k : Nat, i < k → k < n → needS r f (l i) (l k) = true → partS m st (l i).h ≠ partS m st (l k).h := by
    intro i k h1 h2 h3 h4
    have := (clash_iff (r := r) (f := f) (n := n) (l := l) (m := m) (st := st) (out := -1)).2 ⟨i, k, h1, h2, by omega, by omega, h4, h3⟩
    rw [h] at this; cases this
  have key : ∀ j q, a[j]? = some q → j + 1 ≤ partS m st (l q.2).h := by
    intro j
    induction j with
    | zero =>
      intro q hq
      obtain ⟨g1, g2, g3⟩ := G.mem q (List.mem_of_getElem? hq)
      have := hno _ _ g1 g2 g3
      have := part_mono ha (S.mono (Nat.le_of_lt g1) g2)
      omega
    | succ j ih =>
      intro q hq
      have hlt : j < a.length := by have := (List.getElem?_eq_some_iff.1 hq).1; omega
      have hp : a[j]? = some a[j] := List.getElem?_eq_getElem hlt
      have h1 := ih _ hp
      have h2 := G.chain j _ _ hp hq
      obtain ⟨g1, g2, g3⟩ := G.mem q (List.mem_of_getElem? hq)
      have h3 := hno _ _ g1 g2 g3
      have h4 := part_mono ha (S.mono (Nat.le_of_lt g1) g2)
      have h5 := part_mono ha (S.mono h2 (by omega))
      omega
  intro j hj
  have hp : a[j]? = some a[j] := List.getElem?_eq_getElem hj
  have k1 := key j _ hp
  have k2 := (part_iff ha (l a[j].2).h (show j < m by omega)).2 (by omega)
  have e : inAt (stpsOf l a) j = (l a[j].2).h - 1 := by simp [inAt, stpsOf, hp]
  omega
theorem asc_pw' {x : List Int} (h : Asc x.length (inAt x)) : x.Pairwise fun a b => a < b := by
  rw [List.pairwise_iff_getElem]
  intro i j hi hj hij
  have := h i j hij hj
  simpa [inAt, hi, hj] using this
/-- ascending lists with the same members are one list -/
theorem asc_ext : ∀ {x y : List Int}, x.Pairwise (fun a b => a < b) → y.Pairwise (fun a b => a < b) → (∀ v, v ∈ x ↔ v ∈ y) → x = y := by
  intro x
  induction x with
  | nil =>
    intro y _ _ h
    cases y with
    | nil => rfl
    | cons b y => exact absurd ((h b).2 List.mem_cons_self) (by simp)
  | cons a x ih =>
    intro y hx hy h
    cases y with
    | nil => exact absurd ((h a).1 List.mem_cons_self) (by simp)
    | cons b y =>
      obtain ⟨x1, x2⟩ := List.pairwise_cons.1 hx
      obtain ⟨y1, y2⟩ := List.pairwise_cons.1 hy
      have e : a = b := by
        rcases List.mem_cons.1 ((h a).1 List.mem_cons_self) with e | e
        · exact e
        · rcases List.mem_cons.1 ((h b).2 List.mem_cons_self) with e2 | e2
          · exact e2.symm
          · have := y1 a e; have := x1 b e2; omega
      subst e
      rw [ih x2 y2 fun v => ?_]
      constructor
      · intro hv
        rcases List.mem_cons.1 ((h v).1 (List.mem_cons_of_mem _ hv)) with e | e
        · have := x1 v hv; omega
        · exact e
      · intro hv
        rcases List.mem_cons.1 ((h v).2 (List.mem_cons_of_mem _ hv)) with e | e
        · have := y1 v hv; omega
        · exact e
theorem bits_of (P : Nat → Bool) : ∀ k, ∃ w, w < 2 ^ k ∧ ∀ h, h < k → w.testBit h = P h := by
  intro k
  induction k with
  | zero => exact ⟨0, by simp, fun h hh => by omega⟩
  | succ k ih =>
    obtain ⟨w, h1, h2⟩ := ih
    refine ⟨w ||| (if P k then 2 ^ k else 0), Nat.or_lt_two_pow (by rw [Nat.pow_succ]; omega) (by split <;> rw [Nat.pow_succ] <;> have := Nat.two_pow_pos k <;> omega), fun h hh => ?_⟩
    rw [Nat.testBit_or]
    by_cases e : h = k
    · subst e
      rw [Nat.testBit_lt_two_pow h1]
      cases P h <;> simp
    · rw [h2 h (by omega)]
      have : (if P k then 2 ^ k else 0 : Nat).testBit h = false := by
        split
        · rw [Nat.testBit_two_pow]; simp; omega
        · simp
      rw [this, Bool.or_false]
/-- each ascending list of hours is that of some number's bits -/
theorem set_of {x : List Int} (h : Asc x.length (inAt x)) (hb : ∀ v ∈ x, 0 ≤ v ∧ v < 9) : ∃ w, w < 512 ∧ setL w 9 = x := by
  obtain ⟨w, h1, h2⟩ := bits_of (fun h => decide ((h : Int) ∈ x)) 9
  refine ⟨w, h1, asc_ext (asc_pw' set_asc) (asc_pw' h) fun v => ?_⟩
  rw [set_mem]
  constructor
  · rintro ⟨h, hh, hb, rfl⟩
    have := h2 h hh
    rw [bit_iff.1 hb] at this
    simpa using this.symm
  · intro hv
    have := hb v hv
    refine ⟨v.toNat, by omega, bit_iff.2 ?_, by omega⟩
    rw [h2 _ (by omega)]
    rw [show ((v.toNat : Nat) : Int) = v by omega]
    simpa using hv
theorem gtI_iff {x y : List Int} : ∀ k i, gtI x y k i = true ↔ ∃ j, i ≤ j ∧ j < i + k ∧ (∀ j', i ≤ j' → j' < j → inAt x j' = inAt y j') ∧ inAt y j < inAt x j := by
  intro k
  induction k with
  | zero => intro i; simp [gtI]; omega
  | succ k ih =>
    intro i
    unfold gtI
    by_cases h : inAt x i = inAt y i
    · rw [if_pos h, ih]
      constructor
      · rintro ⟨j, h1, h2, h3, h4⟩
        exact ⟨j, by omega, by omega, fun j' a b => by
          by_cases e : j' = i
          · rw [e]; exact h
          · exact h3 j' (by omega) b, h4⟩
      · rintro ⟨j, h1, h2, h3, h4⟩
        have : j ≠ i := by rintro rfl; omega
        exact ⟨j, by omega, by omega, fun j' a b => h3 j' (by omega) b, h4⟩
    · rw [if_neg h, decide_eq_true_eq]
      constructor
      · intro h'
        exact ⟨i, Nat.le_refl _, by omega, fun j' a b => by omega, h'⟩
      · rintro ⟨j, h1, h2, h3, h4⟩
        by_cases e : j = i
        · subst e; exact h4
        · exact absurd (h3 i (Nat.le_refl _) (by omega)) h
theorem in_ext {x y : List Int} (hl : x.length = y.length) (h : ∀ j, j < x.length → inAt x j = inAt y j) : x = y := by
  apply List.ext_getElem hl
  intro i h1 h2
  have := h i h1
  simpa [inAt, h1, h2] using this
/-- what comes before what -/
def btr (x y : List Int) : Prop := x.length < y.length ∨ (x.length = y.length ∧ gtI x y x.length 0 = true)
instance {x y : List Int} : Decidable (btr x y) := by unfold btr; infer_instance
def bst (ok : Nat → Bool) : Nat → List Int × Bool
  | 0 => ([], false)
  | w + 1 => if ok w = true ∧ ((bst ok w).2 = false ∨ btr (setL w 9) (bst ok w).1) then (setL w 9, true) else bst ok w
theorem bst_len {ok : Nat → Bool} : ∀ w, (bst ok w).1.length ≤ 9 := by
  intro w
  induction w with
  | zero => simp [bst]
  | succ w ih =>
    unfold bst
    split
    · exact setL_len
    · exact ih
theorem bst_eq {ok : Nat → Bool} {F : List Int} {w0 : Nat} (hF : setL w0 9 = F) (h0 : ok w0 = true) (hlen : ∀ w, ok w = true → F.length ≤ (setL w 9).length) (hlate : ∀ w, ok w = true → ∀ j, j < F.length → inAt (setL w 9) j ≤ inAt F j) :
    ∀ w, w0 < w → bst ok w = (F, true) := by
  have hno : ∀ w, ok w = true → ¬ btr (setL w 9) F := by
    intro w hw hb
    have h1 := hlen w hw
    rcases hb with hb | ⟨e, hb⟩
    · omega
    · obtain ⟨j, _, hj, _, hlt⟩ := (gtI_iff _ _).1 hb
      have := hlate w hw j (by omega)
      omega
  have hyes : ∀ w, ok w = true → setL w 9 ≠ F → btr F (setL w 9) := by
    intro w hw hne
    have h1 := hlen w hw
    by_cases e : F.length = (setL w 9).length
    · right
      refine ⟨e, (gtI_iff _ _).2 ?_⟩
      apply Classical.byContradiction
      intro hc
      have all : ∀ j, j < F.length → inAt F j = inAt (setL w 9) j := by
        intro j
        induction j using Nat.strongRecOn with
        | _ j ih =>
          intro hj
          apply Classical.byContradiction
          intro hd
          have := hlate w hw j hj
          exact hc ⟨j, Nat.zero_le _, by omega, fun j' _ hj' => ih j' hj' (by omega), by omega⟩
      exact hne (in_ext e all).symm
    · left; omega
  have pre : ∀ w, (bst ok w).2 = true → ∃ v, ok v = true ∧ (bst ok w).1 = setL v 9 := by
    intro w
    induction w with
    | zero => intro h; simp [bst] at h
    | succ w ih =>
      unfold bst
      split
      · rename_i h; exact fun _ => ⟨w, h.1, rfl⟩
      · exact ih
  intro w hw
  induction w with
  | zero => omega
  | succ w ih =>
    by_cases e : w = w0
    · subst e
      unfold bst
      split
      · rw [hF]
      · rename_i hn
        have h2 : (bst ok w).2 = true := by
          cases hb : (bst ok w).2
          · exact absurd ⟨h0, .inl hb⟩ hn
          · rfl
        obtain ⟨v, hv, ev⟩ := pre w h2
        by_cases ef : setL v 9 = F
        · rw [← ef, ← ev, ← h2]
        · exact absurd ⟨h0, .inr (by rw [hF, ev]; exact hyes v hv ef)⟩ hn
    · have := ih (by omega)
      unfold bst
      rw [this, if_neg]
      rintro ⟨h1, h2 | h2⟩
      · simp at h2
      · exact hno w h1 h2
end Go.Proofs.Ytiafgimgcbmgaaa.bl
namespace Go.Proofs.Ytiafgimgcbmgaaa.bl
open Go.GE
set_option linter.unusedVariables false
set_option linter.unusedSimpArgs false
set_option maxRecDepth 100000
set_option maxHeartbeats 4000000
attribute [local simp] runOps_nil runOps_cons runOpsF_nil runOpsF_cons fstS_some fstF_some opStep_eq want_none oStep_true oStep_false fin_pure fin_read fin_alloc fin_write storeB wrN cellV addWr o_move o_assign o_pick o_alloc o_box o_load o_store o_nilCheck o_bin o_un o_extract o_callV o_callB o_callI callV_f callV_y callV_fc o_makeFunc partsA Instr.fill builtin_len builtin_max2 bin_add bin_sub bin_mul bin_quo bin_rem bin_lss bin_leq bin_gtr bin_geq bin_eql bin_neq un_neg un_not bin_shr bin_shl wrap_u64_id opd opds optAll putO nbeq nblt constOk isC ops sub cl cr co bodyOf thenS_normal thenS_ret thenS_exit thenS_goto afterN_normal afterN_ret afterN_exit afterN_goto condS_true condS_false blockS_normal blockS_ret blockS_exit blockS_goto headS normS normK_eq fixS_nil fixS_cons fix1 fixV emptyB keepO_nil keepO_cons roundC_normal roundC_exit roundC_ret roundC_goto sweep_eq sweepD rnm pickR pickW rootsB ptrT renT ptrFn renFn ptrB_flat ptrB_non renB_flat renB_non plainS_some drawS_some fpsOk disj unord range' dropTo enumT undef wrap_i64_id Value.cells mkCells ptrTo scal cellsAt rdN endS_ret resultsA Option.bind_some tupV finish reachN dep ptrL_eq ptrL renL_eq renL ptrV_bool ptrV_int ptrV_string ptrV_nilFunc ptrV_nilIface ptrV_nilPtr ptrV_ptr ptrV_nilSl ptrV_sl ptrV_iface ptrV_agg ptrV_tuple ptrV_func renV_bool renV_int renV_string renV_nilFunc renV_nilIface renV_nilPtr renV_ptr renV_nilSl renV_sl renV_iface renV_agg renV_tuple renV_func gotoS_goto gotoS_normal gotoS_exit gotoS_ret skip_seq sliceE bnd bndHi intOf optOpd keepT_nil keepT_cons keepC_t keepC_f lk_nil lk_cons lkC_t lkC_f has_nil has_cons hasC_t hasC_f rep_nil rep_cons repC_t repC_f put_eq putC_t putC_f mem_nil mem_cons memC_t memC_f idx_nil idx_cons idxC_t idxC_f reach_nil reach_cons reachC_t reachC_f
attribute [local simp] n7_1s n7_3s n7_5s n7_7s n7_10s n7_13s n7_14s n7_12s n7_15s n7_11s n7_9s n7_17s n7_19s n7_22s n7_27s n7_29s n7_30s n7_28s n7_26s n7_34s n7_36s n7_39s n7_42s n7_43s n7_41s n7_44s n7_40s n7_38s n7_46s n7_48s n7_49s n7_47s n7_45s n7_37s n7_35s n7_33s n7_32s n7_50s n7_31s n7_25s n7_24s n7_24g n7_23s n7_21s n7_52s n7_53s n7_51s n7_20s n7_18s n7_16s n7_8s n7_6s n7_4s n7_2s n7_0s Try.f7
section
variable (r f : Int) {cs : List Value} {own : Bool} {A : List Ab}
def okW (r f : Int) (A : List Ab) (w : Nat) : Bool := !clW r f A w
theorem l7 (S : Sht r f A.length (abAt A)) (hb : ∀ a ∈ A, 0 ≤ a.h ∧ a.h ≤ 9 ∧ -20 ≤ a.hi ∧ a.lo ≤ 39) (F : List Int) : ∀ q w : Nat, w + q = 512 →
    lpB Try.prog LL ⟨7, 95, 1, none⟩ n7_24 n7_25 ⟨[(3, pp 1), (4, wh 3 F.length), (8, wh 4 (bst (okW r f A) w).1.length), (9, .bool (bst (okW r f A) w).2), (10, iv w)],
      [.cells cs 3 true own, shB r f 2 0 A.length A.length, .cells (A.flatMap abG) 3 true true, iB F, iB (bst (okW r f A) w).1], []⟩ =
      some (.exit 0, ⟨[(4, wh 1 F.length), (8, wh 2 (bst (okW r f A) 512).1.length), (9, .bool (bst (okW r f A) 512).2)], [.cells cs 3 true own, iB F, iB (bst (okW r f A) 512).1], []⟩) := by
  intro q
  induction q with
  | zero =>
    intro w hw
    obtain rfl : w = 512 := by omega
    generalize bst (okW r f A) 512 = Z
    rw [lpB_eq]
    simp only [iB]
    simp (maxSteps := 1000000) (disch := first | omega | decide | assumption | simp [scal]) [loadA_eq ia_75, za_24, sz_24, loadA_eq ia_24, lenA_sl lk_41, lenA_sl lk_25, o_index ix_80, want_some q7_10g2, want_some q7_10g6, want_some q7_10g13, want_some q7_46g1, want_some q7_46g4, want_some q7_46g11, want_some q7_46g17, want_some q7_52g1, want_some q7_52g6]
  | succ q ih =>
    intro w hw
    have e1 : (w : Int) < 512 := by omega
    have w1 : w < 1024 := by omega
    have this := ih (w + 1) (by omega)
    have a5 := fun h => k39 w w1 h
    have a1 := fun b0 b1 bx => k41 r f 0 A.length A.length w (b := 2) (h := b0 :: b1 :: .cells (A.flatMap abG) 3 true true :: bx) (own := true) S rfl (abAt_C A) w1
    have a2 := fun b0 b1 b3 b4 bx => k20 r f 2 0 A.length A.length 5 0 (setL w 9).length (setL w 9).length (h := b0 :: b1 :: .cells (A.flatMap abG) 3 true true :: b3 :: b4 :: iB (setL w 9) :: bx) rfl rfl (by decide) (abAt_C A) (inAt_C (setL w 9))
    rw [exp_of (set_ptd S w)] at a2
    have ds : anyF (tabS (alw A.length (abAt A)) r f w 0) 60 0 = okW r f A w := by
      unfold okW
      rw [Bool.eq_iff_iff, some_iff, way_iff S hb, Bool.not_eq_true']
    have hS : bst (okW r f A) (w + 1) = if okW r f A w = true ∧ ((bst (okW r f A) w).2 = false ∨ btr (setL w 9) (bst (okW r f A) w).1) then (setL w 9, true) else bst (okW r f A) w := rfl
    have hok : okW r f A w = !clashS r f A.length (abAt A) (setL w 9).length (inAt (setL w 9)) (-1) := rfl
    have bl := bst_len (ok := okW r f A) w
    have tl := setL_len (w := w) (i := 9)
    have g1 := fun x1 x2 x3 x4 (B T : List Int) (hl : T.length = B.length) (hx : T.length ≤ 1000) bx => k42 T B hl hx (b1 := 5) (b2 := 4) (h := x1 :: x2 :: x3 :: x4 :: iB B :: iB T :: bx) rfl rfl (by decide)
    generalize bst (okW r f A) (w + 1) = Z' at *
    generalize bst (okW r f A) 512 = Z9 at *
    generalize bst (okW r f A) w = Z at *
    generalize okW r f A w = is at *
    generalize clashS r f A.length (abAt A) (setL w 9).length (inAt (setL w 9)) (-1) = cl at *
    obtain ⟨B, fd⟩ := Z
    generalize setL w 9 = T at *
    generalize tabS (alw A.length (abAt A)) r f w = TT at *
    simp only [iB, cast1] at *
    have g2 := fun x1 x2 x3 x4 (hl : T.length = B.length) bx => g1 x1 x2 x3 x4 B T hl (by omega) bx
    clear g1
    rw [lpB_eq]
    cases cl
    · obtain rfl : is = true := hok
      simp only [Bool.false_eq_true, if_false] at a2
      cases fd
      · rw [if_pos ⟨rfl, .inl rfl⟩] at hS
        subst hS
        generalize A.flatMap abG = M at *
        generalize B.map iv = BB at *
        generalize T.map iv = TL at *
        simp (maxSteps := 1000000) (disch := first | omega | decide | assumption | simp [scal]) [loadA_eq ia_75, za_24, sz_24, loadA_eq ia_24, lenA_sl lk_41, lenA_sl lk_25, o_index ix_80, want_some q7_10g2, want_some q7_10g6, want_some q7_10g13, want_some q7_46g1, want_some q7_46g4, want_some q7_46g11, want_some q7_46g17, want_some q7_52g1, want_some q7_52g6, bneq4, k40, row0, row0', e1, a5, a1, a2, ds, this]
      · by_cases u1 : T.length < B.length
        · rw [if_pos ⟨rfl, .inr (.inl u1)⟩] at hS
          subst hS
          generalize A.flatMap abG = M at *
          simp (maxSteps := 1000000) (disch := first | omega | decide | assumption | simp [scal]) [loadA_eq ia_75, za_24, sz_24, loadA_eq ia_24, lenA_sl lk_41, lenA_sl lk_25, o_index ix_80, want_some q7_10g2, want_some q7_10g6, want_some q7_10g13, want_some q7_46g1, want_some q7_46g4, want_some q7_46g11, want_some q7_46g17, want_some q7_52g1, want_some q7_52g6, bneq4, k40, row0, row0', e1, a5, a1, a2, ds, u1, this]
        · by_cases u2 : T.length = B.length
          · have g3 := fun x1 x2 x3 x4 bx => g2 x1 x2 x3 x4 u2 bx
            have u2' : (T.length : Int) = B.length := by omega
            rcases Bool.eq_false_or_eq_true (gtI T B T.length 0) with u3 | u3
            · rw [if_pos ⟨rfl, .inr (.inr ⟨u2, u3⟩)⟩] at hS
              subst hS
              rw [u3] at g3
              generalize A.flatMap abG = M at *
              generalize B.map iv = BB at *
              generalize T.map iv = TL at *
              simp (maxSteps := 1000000) (disch := first | omega | decide | assumption | simp [scal]) [loadA_eq ia_75, za_24, sz_24, loadA_eq ia_24, lenA_sl lk_41, lenA_sl lk_25, o_index ix_80, want_some q7_10g2, want_some q7_10g6, want_some q7_10g13, want_some q7_46g1, want_some q7_46g4, want_some q7_46g11, want_some q7_46g17, want_some q7_52g1, want_some q7_52g6, bneq4, k40, row0, row0', e1, a5, a1, a2, ds, u1, eq_true u2', g3, this]
            · rw [if_neg (by rintro ⟨_, h | h | ⟨_, h⟩⟩; · simp at h
                             · exact u1 h
                             · rw [u3] at h; simp at h)] at hS
              subst hS
              rw [u3] at g3
              generalize A.flatMap abG = M at *
              generalize B.map iv = BB at *
              generalize T.map iv = TL at *
              simp (maxSteps := 1000000) (disch := first | omega | decide | assumption | simp [scal]) [loadA_eq ia_75, za_24, sz_24, loadA_eq ia_24, lenA_sl lk_41, lenA_sl lk_25, o_index ix_80, want_some q7_10g2, want_some q7_10g6, want_some q7_10g13, want_some q7_46g1, want_some q7_46g4, want_some q7_46g11, want_some q7_46g17, want_some q7_52g1, want_some q7_52g6, bneq4, k40, row0, row0', e1, a5, a1, a2, ds, u1, eq_true u2', g3, this]
          · have u2' : ¬ (T.length : Int) = B.length := by omega
            rw [if_neg (by rintro ⟨_, h | h | ⟨h, _⟩⟩; · simp at h
                           · exact u1 h
                           · exact u2 h)] at hS
            subst hS
            generalize A.flatMap abG = M at *
            generalize B.map iv = BB at *
            generalize T.map iv = TL at *
            simp (maxSteps := 1000000) (disch := first | omega | decide | assumption | simp [scal]) [loadA_eq ia_75, za_24, sz_24, loadA_eq ia_24, lenA_sl lk_41, lenA_sl lk_25, o_index ix_80, want_some q7_10g2, want_some q7_10g6, want_some q7_10g13, want_some q7_46g1, want_some q7_46g4, want_some q7_46g11, want_some q7_46g17, want_some q7_52g1, want_some q7_52g6, bneq4, k40, row0, row0', e1, a5, a1, a2, ds, u1, u2, u2', this]
    · obtain rfl : is = false := hok
      rw [if_neg (by simp)] at hS
      subst hS
      simp only [if_true] at a2
      generalize A.flatMap abG = M at *
      generalize B.map iv = BB at *
      generalize T.map iv = TL at *
      simp (maxSteps := 1000000) (disch := first | omega | decide | assumption | simp [scal]) [loadA_eq ia_75, za_24, sz_24, loadA_eq ia_24, lenA_sl lk_41, lenA_sl lk_25, o_index ix_80, want_some q7_10g2, want_some q7_10g6, want_some q7_10g13, want_some q7_46g1, want_some q7_46g4, want_some q7_46g11, want_some q7_46g17, want_some q7_52g1, want_some q7_52g6, bneq4, k40, row0, row0', e1, a5, a1, a2, ds, this]
end
theorem few_set {r f : Int} {A : List Ab} (S : Sht r f A.length (abAt A)) (hb : ∀ a ∈ A, 0 ≤ a.h ∧ a.h ≤ 9 ∧ -20 ≤ a.hi ∧ a.lo ≤ 39) : bst (okW r f A) 512 = (fewR r f A.length (abAt A), true) := by
  have e : fewR r f A.length (abAt A) = stpsOf (abAt A) (fewS r f (abAt A) A.length) := by unfold fewR; rw [if_pos (chk_of S)]
  have hl : (stpsOf (abAt A) (fewS r f (abAt A) A.length)).length = (fewS r f (abAt A) A.length).length := by simp [stpsOf]
  have ha := few_asc S
  obtain ⟨w0, h1, h2⟩ := set_of ha fun v hv => by
    obtain ⟨q, hq, rfl⟩ := List.mem_map.1 hv
    obtain ⟨q1, q2⟩ := fewS_mem hq
    have o := S.asc _ _ q1 q2
    have o1 := (S.ok q.1 (by omega)).h0
    obtain ⟨_, o2, _⟩ := hb _ (mem_at q2)
    omega
  have hex := few_explains S
  rw [e]
  refine bst_eq h2 ?_ (fun w hw => ?_) (fun w hw j hj => ?_) 512 h1
  · unfold okW clW
    rw [h2, hex]
    rfl
  · rw [hl]
    exact few_min S set_asc (by unfold okW at hw; simpa using hw)
  · rw [hl] at hj
    exact few_late S set_asc (by unfold okW at hw; simpa using hw) j hj
section
variable (a b off n c : Nat) {cs : List Value} {own : Bool} {g : Nat → Nat × Nat × Nat}
theorem c7 (ha : a < 256) (hb : b < 256) (hc : TrC cs off n g) :
    LL.run 7 [trV a b 0 off n c] [.cells cs 3 true own] = some ⟨.bool true, [], []⟩ := by
  refine go (by decide) ?_
  rw [run7 _ _ _ (by simp)]
  have a0 := fun bx => k38 a b off n c (g := g) (bb := 0) (h := .cells cs 3 true own :: bx) ha hb rfl hc
  have S := madR_sht (g := g) (n := n) (a := a) (b := b)
  have mo := (madR_ok (g := g) (n := n)).1
  generalize madR g n = A at *
  generalize hr : (a : Int) % 4 = r at *
  generalize hf : (b : Int) % 4 = f at *
  have bd : ∀ a ∈ A, 0 ≤ a.h ∧ a.h ≤ 9 ∧ -20 ≤ a.hi ∧ a.lo ≤ 39 := fun a h => by have := mo a h; omega
  have a1 := fun b0 b1 bx => k17 r f 2 0 A.length A.length (l := abAt A) (h := b0 :: b1 :: .cells (A.flatMap abG) 3 true true :: bx) (own := true) rfl (abAt_C A) (Nat.le_refl _)
  have a2 := fun b0 b1 bx => k24 r f 2 0 A.length A.length (l := abAt A) (h := b0 :: b1 :: .cells (A.flatMap abG) 3 true true :: bx) (own := true) rfl (abAt_C A) (Nat.le_refl _)
  have n40 := S.n40
  have pl := fewS_len (r := r) (f := f) (n := A.length) (l := abAt A)
  have hp : prsR r f A.length (abAt A) = fewS r f (abAt A) A.length := by unfold prsR; rw [if_pos (chk_of S)]
  have a3 := fun b0 b1 b3 b4 bx => k25 r f 2 0 A.length A.length 5 0 (fewS r f (abAt A) A.length).length (fewS r f (abAt A) A.length).length (l := abAt A) (h := b0 :: b1 :: .cells (A.flatMap abG) 3 true true :: b3 :: b4 :: prB (fewS r f (abAt A) A.length) :: bx) (own := true) rfl rfl (by decide) (abAt_C A) (prAt_C _) (by omega)
  have hv : verS r f A.length (abAt A) (fewS r f (abAt A) A.length).length (prAt (fewS r f (abAt A) A.length)) = 0 := by
    unfold verS
    rw [if_neg (by rw [chk_of S]; simp), ver_few]
  rw [hv] at a3
  rw [chk_of S] at a1 a2
  rw [hp] at a2
  have fr := fewR_of S
  have L := l7 r f (cs := cs) (own := own) S bd (fewR r f A.length (abAt A)) 512 0 (by omega)
  rw [few_set S bd] at L
  have z : bst (okW r f A) 0 = ([], false) := rfl
  rw [z] at L
  generalize fewR r f A.length (abAt A) = F at *
  generalize fewS r f (abAt A) A.length = P at *
  have q1 := fun x1 bx => k19 F F (by omega) (b1 := 1) (b2 := 2) (h := x1 :: iB F :: iB F :: bx) rfl rfl (by decide)
  simp only [abK, iB, prB, List.map_nil, List.length_nil, Int.natCast_zero, decide_true, fr] at *
  generalize A.flatMap abG = M at *
  generalize P.flatMap prG = PP at *
  generalize F.map iv = FF at *
  simp (maxSteps := 1000000) (disch := first | omega | decide | assumption | simp [scal]) [loadA_eq ia_75, za_24, sz_24, loadA_eq ia_24, lenA_sl lk_41, lenA_sl lk_25, o_index ix_80, want_some q7_10g2, want_some q7_10g6, want_some q7_10g13, want_some q7_46g1, want_some q7_46g4, want_some q7_46g11, want_some q7_46g17, want_some q7_52g1, want_some q7_52g6, k15, a0, a1, a2, a3, q1, L]
end
end Go.Proofs.Ytiafgimgcbmgaaa.bl
