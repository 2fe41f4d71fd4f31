/-
  Contracts of functions of the program at the limit evaluator, continued. No condition.
-/
import Derived.Test.YtiafgimgcbmgaaaRB1
import Derived.OpenShut
import Derived.Test.YtiafgimgcbmgaaaE28
import Derived.Test.YtiafgimgcbmgaaaE38
import Derived.Test.YtiafgimgcbmgaaaE39
import Derived.Test.YtiafgimgcbmgaaaE40
namespace Go.Proofs.Ytiafgimgcbmgaaa.bl
open Go.GE
set_option linter.unusedVariables false
set_option linter.unusedSimpArgs false
set_option maxRecDepth 100000
set_option maxHeartbeats 4000000
attribute [local simp] runOps_nil runOps_cons runOpsF_nil runOpsF_cons fstS_some fstF_some opStep_eq want_none oStep_true oStep_false fin_pure fin_read fin_alloc fin_write storeB wrN cellV addWr o_move o_assign o_pick o_alloc o_box o_load o_store o_nilCheck o_bin o_un o_extract o_callV o_callB o_callI callV_f callV_y callV_fc o_makeFunc partsA Instr.fill builtin_len builtin_max2 bin_add bin_sub bin_mul bin_quo bin_rem bin_lss bin_leq bin_gtr bin_geq bin_eql bin_neq un_neg un_not bin_shr bin_shl wrap_u64_id opd opds optAll putO nbeq nblt constOk isC ops sub cl cr co bodyOf thenS_normal thenS_ret thenS_exit thenS_goto afterN_normal afterN_ret afterN_exit afterN_goto condS_true condS_false blockS_normal blockS_ret blockS_exit blockS_goto headS normS normK_eq fixS_nil fixS_cons fix1 fixV emptyB keepO_nil keepO_cons roundC_normal roundC_exit roundC_ret roundC_goto sweep_eq sweepD rnm pickR pickW rootsB ptrT renT ptrFn renFn ptrB_flat ptrB_non renB_flat renB_non plainS_some drawS_some fpsOk disj unord range' dropTo enumT undef wrap_i64_id Value.cells mkCells ptrTo scal cellsAt rdN endS_ret resultsA Option.bind_some tupV finish reachN dep ptrL_eq ptrL renL_eq renL ptrV_bool ptrV_int ptrV_string ptrV_nilFunc ptrV_nilIface ptrV_nilPtr ptrV_ptr ptrV_nilSl ptrV_sl ptrV_iface ptrV_agg ptrV_tuple ptrV_func renV_bool renV_int renV_string renV_nilFunc renV_nilIface renV_nilPtr renV_ptr renV_nilSl renV_sl renV_iface renV_agg renV_tuple renV_func gotoS_goto gotoS_normal gotoS_exit gotoS_ret skip_seq sliceE bnd bndHi intOf optOpd keepT_nil keepT_cons keepC_t keepC_f lk_nil lk_cons lkC_t lkC_f has_nil has_cons hasC_t hasC_f rep_nil rep_cons repC_t repC_f put_eq putC_t putC_f mem_nil mem_cons memC_t memC_f idx_nil idx_cons idxC_t idxC_f reach_nil reach_cons reachC_t reachC_f
attribute [local simp] n12_1s n12_3s n12_5s n12_8s n12_12s n12_15s n12_16s n12_14s n12_20s n12_22s n12_23s n12_21s n12_19s n12_18s n12_24s n12_17s n12_13s n12_11s n12_10s n12_10g n12_9s n12_7s n12_26s n12_28s n12_31s n12_35s n12_38s n12_39s n12_37s n12_43s n12_44s n12_42s n12_41s n12_45s n12_40s n12_36s n12_34s n12_33s n12_33g n12_32s n12_30s n12_47s n12_49s n12_51s n12_54s n12_57s n12_58s n12_56s n12_59s n12_55s n12_53s n12_62s n12_66s n12_69s n12_70s n12_68s n12_74s n12_76s n12_79s n12_80s n12_78s n12_81s n12_77s n12_75s n12_73s n12_72s n12_82s n12_71s n12_67s n12_65s n12_64s n12_64g n12_63s n12_61s n12_84s n12_86s n12_88s n12_90s n12_92s n12_94s n12_97s n12_100s n12_101s n12_99s n12_102s n12_98s n12_96s n12_105s n12_109s n12_112s n12_113s n12_111s n12_117s n12_119s n12_122s n12_123s n12_121s n12_124s n12_120s n12_118s n12_116s n12_115s n12_125s n12_114s n12_110s n12_108s n12_107s n12_107g n12_106s n12_104s n12_128s n12_131s n12_132s n12_130s n12_133s n12_129s n12_127s n12_135s n12_136s n12_134s n12_126s n12_103s n12_95s n12_93s n12_91s n12_89s n12_87s n12_85s n12_83s n12_60s n12_52s n12_50s n12_48s n12_46s n12_29s n12_27s n12_25s n12_6s n12_4s n12_2s n12_0s Try.f12
theorem valS_bd {r f : Int} {n : Nat} {l : Nat → Ab} {m : Nat} {st : Nat → Int} {x : Int} (S : Sht r f n l) (x0 : 0 ≤ x) (x1 : x ≤ 10000) (hk : (valS r f n l m st x).2.2 = true) :
    (-11000000 ≤ (valS r f n l m st x).1 ∧ (valS r f n l m st x).1 ≤ 1000000) ∧ (-1000000 ≤ (valS r f n l m st x).2.1 ∧ (valS r f n l m st x).2.1 ≤ 11000000) := by
  obtain ⟨_, _, _, h4, h5⟩ := valL_spec (r := r) (f := f) (l := l) (m := m) (st := st) (x := x) (pt := partS m st x) n 0 (0, 0, false)
  unfold valS at hk ⊢
  constructor
  · rcases h4 with ⟨h, _⟩ | ⟨j, _, hj, _, e⟩ | h
    · simp at h
    · have := ar_bd S.dr (S.ok j (by omega)) x0 x1
      omega
    · rw [hk] at h; simp at h
  · rcases h5 with ⟨h, _⟩ | ⟨j, _, hj, _, e⟩ | h
    · simp at h
    · have := ar_bd S.dr (S.ok j (by omega)) x0 x1
      omega
    · rw [hk] at h; simp at h
theorem valP_bd {r f : Int} {n : Nat} {l : Nat → Ab} {m : Nat} {st : Nat → Int} {x : Int} (S : Sht r f n l) (x0 : 0 ≤ x) (x1 : x ≤ 10000) :
    (-11000000 ≤ (valP r f n l m st x).1 ∧ (valP r f n l m st x).1 ≤ 11000000) ∧ (-11000000 ≤ (valP r f n l m st x).2 ∧ (valP r f n l m st x).2 ≤ 11000000) := by
  unfold valP
  split
  · rename_i h
    have hk : (valS r f n l m st x).2.2 = true := by
      unfold valE at h
      split at h
      · rename_i w; exact absurd h w
      · split at h
        · simp at h
        · split at h
          · simp at h
          · rename_i w; simpa using w
    have := valS_bd S x0 x1 hk
    simp only []
    omega
  · simp
theorem higR_bd {r f : Int} {n : Nat} {l : Nat → Ab} {m : Nat} {st : Nat → Int} (S : Sht r f n l) : ∀ v ∈ higR r f n l m st, -100000000 ≤ v ∧ v ≤ 100000000 := by
  intro v hv
  unfold higR at hv
  split at hv
  · unfold higL at hv
    obtain ⟨i, hi, rfl⟩ := List.mem_map.1 hv
    have hi' := List.mem_range.1 hi
    have hk : (valS r f n l m st (l i).h).2.2 = true := (valL_spec n 0 (0, 0, false)).1.2 (.inr ⟨i, Nat.zero_le _, by omega, rfl⟩)
    have := valS_bd S (S.ok i hi').h0 (S.ok i hi').h1 hk
    omega
  · simp at hv
theorem fewR_bd {r f : Int} {n : Nat} {l : Nat → Ab} (S : Sht r f n l) : ∀ v ∈ fewR r f n l, -100 ≤ v ∧ v ≤ 10000 := by
  intro v hv
  unfold fewR at hv
  split at hv
  · obtain ⟨q, hq, rfl⟩ := List.mem_map.1 hv
    have o := S.ok _ (fewS_mem hq).2
    have := o.h0
    have := o.h1
    omega
  · simp at hv
section
variable (r f : Int) (p2 p3 p4 : Nat) {cs : List Value} {own : Bool} {A : List Ab}
theorem t12_4 (S : Sht r f A.length (abAt A)) (h2 : p2 < 256) (h3 : p3 < 256) (h4 : p4 < 256) (hb : ∀ i, i < A.length → (abAt A i).h ≤ 9 ∧ -100 ≤ (abAt A i).lo ∧ (abAt A i).hi ≤ 100) {T : List Int} (hT : Asc T.length (inAt T)) (hm : T.length ≤ 9) (hTb : ∀ j, j < T.length → 0 ≤ inAt T j ∧ inAt T j ≤ 9) :
    codeB Try.prog LL ⟨12, 276, 1, none⟩ n12_83 ⟨[(2, uv p2), (3, uv p3), (4, uv p4), (11, pp 1), (12, pp 3), (13, pp 5), (16, wh 7 T.length), (17, wh 8 T.length)],
        [.cells cs 3 true own, shB r f 2 0 A.length A.length, .cells (A.flatMap abG) 3 true true, shB f r 4 0 A.length A.length, .cells ((A.map negA).flatMap abG) 3 true true, shB r f 6 0 A.length A.length, .cells ((A.map (mvA p3 p4)).flatMap abG) 3 true true, iB T, iB (T.map fun v => v + (p4 : Int))], []⟩ = some (.ret, ⟨[(10, .bool true)], [.cells cs 3 true own], []⟩) := by
  obtain ⟨x, hx⟩ : ∃ x, p2 % 10 = x := ⟨_, rfl⟩
  have ex : (p2 : Int).tmod 10 = (x : Int) := by rw [Int.tmod_eq_emod_of_nonneg (by omega)]; omega
  have x9 : x ≤ 9 := by omega
  have cA : AbC (A.flatMap abG) 0 A.length (abAt A) := abAt_C A
  have cN : AbC ((A.map negA).flatMap abG) 0 A.length (abAt (A.map negA)) := by have := abAt_C (A.map negA); rwa [List.length_map] at this
  have cM : AbC ((A.map (mvA p3 p4)).flatMap abG) 0 A.length (abAt (A.map (mvA p3 p4))) := by have := abAt_C (A.map (mvA p3 p4)); rwa [List.length_map] at this
  have cT : IvC (T.map iv) 0 T.length (inAt T) := inAt_C T
  have cT' : IvC ((T.map fun v => v + (p4 : Int)).map iv) 0 T.length (inAt (T.map fun v => v + (p4 : Int))) := by have := inAt_C (T.map fun v => v + (p4 : Int)); rwa [List.length_map] at this
  have a1 := fun b0 b1 b3 b4 b5 b6 bx => k29 r f 2 0 A.length A.length 7 0 T.length T.length (x : Int) (h := b0 :: b1 :: .cells (A.flatMap abG) 3 true true :: b3 :: b4 :: b5 :: b6 :: iB T :: bx) rfl rfl (by decide) cA cT
  have a2 := fun b0 b1 b3 b4 b5 b6 b7 bx => k29 r f 6 0 A.length A.length 8 0 T.length T.length ((x : Int) + p4) (h := b0 :: b1 :: b3 :: b4 :: b5 :: b6 :: .cells ((A.map (mvA p3 p4)).flatMap abG) 3 true true :: b7 :: iB (T.map fun v => v + (p4 : Int)) :: bx) rfl rfl (by decide) cM cT'
  have a3 := fun b0 b1 b3 b4 b5 b6 bx => k29 f r 4 0 A.length A.length 7 0 T.length T.length (x : Int) (h := b0 :: b1 :: b3 :: b4 :: .cells ((A.map negA).flatMap abG) 3 true true :: b5 :: b6 :: iB T :: bx) rfl rfl (by decide) cN cT
  have a4 := fun b0 b1 b3 b4 b5 b6 bx => kList r f 2 0 A.length A.length 7 0 T.length T.length (h := b0 :: b1 :: .cells (A.flatMap abG) 3 true true :: b3 :: b4 :: b5 :: b6 :: iB T :: bx) rfl rfl (by decide) (c34 r f 0 A.length A.length 0 T.length T.length _ _ _ _ _ _ cA cT) fun _ => rfl
  have a5 := fun b0 b1 b3 b4 b5 b6 b7 bx => kList r f 6 0 A.length A.length 8 0 T.length T.length (h := b0 :: b1 :: b3 :: b4 :: b5 :: b6 :: .cells ((A.map (mvA p3 p4)).flatMap abG) 3 true true :: b7 :: iB (T.map fun v => v + (p4 : Int)) :: bx) rfl rfl (by decide) (c34 r f 0 A.length A.length 0 T.length T.length _ _ _ _ _ _ cM cT') fun _ => rfl
  obtain ⟨v1, v2⟩ := mv_val S hT hm hTb hb (up := (p3 : Int)) (lt := (p4 : Int)) (by omega) (by omega) (x := (x : Int)) (by omega)
  obtain ⟨v3, v4⟩ := neg_val S hT hm hTb (x := (x : Int)) (by omega)
  obtain ⟨v5, v6⟩ := mv_hig S hT hm hTb hb (up := (p3 : Int)) (lt := (p4 : Int)) (by omega) (by omega)
  have b1 := valP_bd (m := T.length) (st := inAt T) (x := (x : Int)) S (by omega) (by omega)
  have b2 := higR_bd (m := T.length) (st := inAt T) S
  have b3 := higR_len (r := r) (f := f) (n := A.length) (l := abAt A) (m := T.length) (st := inAt T)
  have b4 := S.n40
  rw [v1] at a2
  rw [v3] at a3
  rw [v5, v6] at a5
  generalize higR r f A.length (abAt A) T.length (inAt T) = G at *
  generalize expE r f A.length (abAt A) T.length (inAt T) = E2 at *
  generalize valE r f A.length (abAt A) T.length (inAt T) (x : Int) = E at *
  generalize valP r f A.length (abAt (A.map (mvA p3 p4))) T.length (inAt (T.map fun v => v + (p4 : Int))) ((x : Int) + p4) = P1 at *
  generalize valP f r A.length (abAt (A.map negA)) T.length (inAt T) (x : Int) = P2 at *
  generalize valP r f A.length (abAt A) T.length (inAt T) (x : Int) = P at *
  have t := t12_6 (cs := cs) (own := own) p3 h3 E P.1 P.2 P1.1 P1.2 P2.1 P2.2 (fun h => by rw [v2 h, v4 h]; refine ⟨⟨rfl, rfl⟩, ⟨rfl, rfl⟩, ?_, ?_⟩ <;> omega)
  have L := l12_6 (cs := cs) (own := own) p3 h3 E P.1 P.2 P1.1 P1.2 P2.1 P2.2 G (by omega) b2 G.length 0 (by omega)
  clear v2 v4 b1 b2
  obtain ⟨P, P'⟩ := P
  obtain ⟨Q, Q'⟩ := P1
  obtain ⟨R, R'⟩ := P2
  simp only [iB, List.length_map, Int.natCast_zero] at *
  generalize (G.map fun v => v + (p3 : Int)).map iv = GG at *
  generalize (T.map fun v => v + (p4 : Int)).map iv = TT at *
  generalize A.flatMap abG = M0 at *
  generalize (A.map negA).flatMap abG = M1 at *
  generalize (A.map (mvA p3 p4)).flatMap abG = M2 at *
  simp (maxSteps := 1000000) (disch := first | omega | decide | assumption | simp [scal]) [loadA_eq ia_75, za_24, sz_24, o_fieldAddr fa_24_1 (by decide), loadA_eq ia_3, o_fieldAddr fa_24_0 (by decide), o_build za_24 pl_24, o_fieldAddr fa_24_2 (by decide), loadA_eq ia_22, lenA_sl lk_22, o_indexAddrS es_22, loadA_eq ia_59, za_59, sz_59, o_fieldAddr fa_59_0 (by decide), o_fieldAddr fa_59_1 (by decide), o_fieldAddr fa_57_1 (by decide), o_fieldAddr fa_57_0 (by decide), ze_22, o_buildSlice es_22 ze_22 (by decide) ba_22_1, ap_22, builtin_append ni_22, sz_22, o_convI cv_5_3, o_convI cv_50_3, lenA_sl lk_25, o_indexAddrS es_25, ze_25, o_buildSlice es_25 ze_25 (by decide) ba_25_1, ap_25, builtin_append ni_25, loadA_eq ia_24, za_57, sz_57, loadA_eq ia_57, o_build za_57 pl_57, want_some q12_54g2, want_some q12_54g6, want_some q12_54g10, want_some q12_54g16, want_some q12_97g3, want_some q12_97g8, want_some q12_97g13, want_some q12_135g13, want_some q12_135g24, -n12_126s, ex, a1, a2, a3, a4, a5, t, L]
end
end Go.Proofs.Ytiafgimgcbmgaaa.bl
namespace Go.Proofs.Ytiafgimgcbmgaaa.bl
open Go.GE
set_option linter.unusedVariables false
set_option linter.unusedSimpArgs false
set_option maxRecDepth 100000
set_option maxHeartbeats 4000000
attribute [local simp] runOps_nil runOps_cons runOpsF_nil runOpsF_cons fstS_some fstF_some opStep_eq want_none oStep_true oStep_false fin_pure fin_read fin_alloc fin_write storeB wrN cellV addWr o_move o_assign o_pick o_alloc o_box o_load o_store o_nilCheck o_bin o_un o_extract o_callV o_callB o_callI callV_f callV_y callV_fc o_makeFunc partsA Instr.fill builtin_len builtin_max2 bin_add bin_sub bin_mul bin_quo bin_rem bin_lss bin_leq bin_gtr bin_geq bin_eql bin_neq un_neg un_not bin_shr bin_shl wrap_u64_id opd opds optAll putO nbeq nblt constOk isC ops sub cl cr co bodyOf thenS_normal thenS_ret thenS_exit thenS_goto afterN_normal afterN_ret afterN_exit afterN_goto condS_true condS_false blockS_normal blockS_ret blockS_exit blockS_goto headS normS normK_eq fixS_nil fixS_cons fix1 fixV emptyB keepO_nil keepO_cons roundC_normal roundC_exit roundC_ret roundC_goto sweep_eq sweepD rnm pickR pickW rootsB ptrT renT ptrFn renFn ptrB_flat ptrB_non renB_flat renB_non plainS_some drawS_some fpsOk disj unord range' dropTo enumT undef wrap_i64_id Value.cells mkCells ptrTo scal cellsAt rdN endS_ret resultsA Option.bind_some tupV finish reachN dep ptrL_eq ptrL renL_eq renL ptrV_bool ptrV_int ptrV_string ptrV_nilFunc ptrV_nilIface ptrV_nilPtr ptrV_ptr ptrV_nilSl ptrV_sl ptrV_iface ptrV_agg ptrV_tuple ptrV_func renV_bool renV_int renV_string renV_nilFunc renV_nilIface renV_nilPtr renV_ptr renV_nilSl renV_sl renV_iface renV_agg renV_tuple renV_func gotoS_goto gotoS_normal gotoS_exit gotoS_ret skip_seq sliceE bnd bndHi intOf optOpd keepT_nil keepT_cons keepC_t keepC_f lk_nil lk_cons lkC_t lkC_f has_nil has_cons hasC_t hasC_f rep_nil rep_cons repC_t repC_f put_eq putC_t putC_f mem_nil mem_cons memC_t memC_f idx_nil idx_cons idxC_t idxC_f reach_nil reach_cons reachC_t reachC_f
attribute [local simp] n12_1s n12_3s n12_5s n12_8s n12_12s n12_15s n12_16s n12_14s n12_20s n12_22s n12_23s n12_21s n12_19s n12_18s n12_24s n12_17s n12_13s n12_11s n12_10s n12_10g n12_9s n12_7s n12_26s n12_28s n12_31s n12_35s n12_38s n12_39s n12_37s n12_43s n12_44s n12_42s n12_41s n12_45s n12_40s n12_36s n12_34s n12_33s n12_33g n12_32s n12_30s n12_47s n12_49s n12_51s n12_54s n12_57s n12_58s n12_56s n12_59s n12_55s n12_53s n12_62s n12_66s n12_69s n12_70s n12_68s n12_74s n12_76s n12_79s n12_80s n12_78s n12_81s n12_77s n12_75s n12_73s n12_72s n12_82s n12_71s n12_67s n12_65s n12_64s n12_64g n12_63s n12_61s n12_84s n12_86s n12_88s n12_90s n12_92s n12_94s n12_97s n12_100s n12_101s n12_99s n12_102s n12_98s n12_96s n12_105s n12_109s n12_112s n12_113s n12_111s n12_117s n12_119s n12_122s n12_123s n12_121s n12_124s n12_120s n12_118s n12_116s n12_115s n12_125s n12_114s n12_110s n12_108s n12_107s n12_107g n12_106s n12_104s n12_128s n12_131s n12_132s n12_130s n12_133s n12_129s n12_127s n12_135s n12_136s n12_134s n12_126s n12_103s n12_95s n12_93s n12_91s n12_89s n12_87s n12_85s n12_83s n12_60s n12_52s n12_50s n12_48s n12_46s n12_29s n12_27s n12_25s n12_6s n12_4s n12_2s n12_0s Try.f12
section
variable (a b off n c w p2 p3 p4 : Nat) {cs : List Value} {own : Bool} {g : Nat → Nat × Nat × Nat}
theorem c12 (ha : a < 256) (hb : b < 256) (hw : w < 65536) (h2 : p2 < 256) (h3 : p3 < 256) (h4 : p4 < 256) (hc : TrC cs off n g) :
    LL.run 12 [trV a b 0 off n c, tv w, uv p2, uv p3, uv p4] [.cells cs 3 true own] = some ⟨.bool true, [], []⟩ := by
  refine go (by decide) ?_
  rw [run12 _ _ _ (by simp)]
  have a0 := fun bx => k38 a b off n c (g := g) (bb := 0) (h := .cells cs 3 true own :: bx) ha hb rfl hc
  have S := madR_sht (g := g) (n := n) (a := a) (b := b)
  obtain ⟨m1, m2⟩ := madR_len (g := g) (n := n)
  have mo := (madR_ok (g := g) (n := n)).1
  generalize madR g n = A at *
  generalize hr : (a : Int) % 4 = r at *
  generalize hf : (b : Int) % 4 = f at *
  have rB : 0 ≤ r ∧ r < 4 := by omega
  have fB : 0 ≤ f ∧ f < 4 := by omega
  have bd : ∀ i, i < A.length → (abAt A i).h ≤ 9 ∧ -100 ≤ (abAt A i).lo ∧ (abAt A i).hi ≤ 100 := fun i hi => by
    rw [abAt_get hi]; have := mo _ (List.getElem_mem hi); omega
  obtain ⟨W, hW⟩ : ∃ W, w % 512 = W := ⟨_, rfl⟩
  have W1 : W < 512 := by omega
  have eW : (w : Int).tmod 512 = (W : Int) := by rw [Int.tmod_eq_emod_of_nonneg (by omega)]; omega
  have a5 := fun h => k39 W (by omega) h
  have hTb : ∀ v ∈ setL W 9, 0 ≤ v ∧ v ≤ 9 := fun v hv => by obtain ⟨h, h1, _, rfl⟩ := set_mem.1 hv; omega
  have T1 := set_asc (w := W)
  have hTm := setL_len (w := W) (i := 9)
  generalize setL W 9 = T at *
  have hTi : ∀ j, j < T.length → 0 ≤ inAt T j ∧ inAt T j ≤ 9 := fun j hj => hTb _ (in_mem hj)
  have cA : AbC (A.flatMap abG) 0 A.length (abAt A) := abAt_C A
  have cN : AbC ((A.map negA).flatMap abG) 0 A.length (abAt (A.map negA)) := by have := abAt_C (A.map negA); rwa [List.length_map] at this
  have cM : AbC ((A.map (mvA p3 p4)).flatMap abG) 0 A.length (abAt (A.map (mvA p3 p4))) := by have := abAt_C (A.map (mvA p3 p4)); rwa [List.length_map] at this
  have a1 := fun b0 b1 bx => k17 r f 2 0 A.length A.length (l := abAt A) (h := b0 :: b1 :: .cells (A.flatMap abG) 3 true true :: bx) (own := true) rfl cA (Nat.le_refl _)
  have a2 := fun b0 b1 b3 b4 bx => k17 f r 4 0 A.length A.length (l := abAt (A.map negA)) (h := b0 :: b1 :: b3 :: b4 :: .cells ((A.map negA).flatMap abG) 3 true true :: bx) (own := true) rfl cN (Nat.le_refl _)
  have a3 := fun b0 b1 b3 b4 b5 b6 bx => k17 r f 6 0 A.length A.length (l := abAt (A.map (mvA p3 p4))) (h := b0 :: b1 :: b3 :: b4 :: b5 :: b6 :: .cells ((A.map (mvA p3 p4)).flatMap abG) 3 true true :: bx) (own := true) rfl cM (Nat.le_refl _)
  rw [chk_of S] at a1
  rw [chk_of (neg_sht S), neg_few S] at a2
  rw [chk_of (mv_sht S bd (up := (p3 : Int)) (lt := (p4 : Int)) (by omega) (by omega)), mv_few S bd (up := (p3 : Int)) (lt := (p4 : Int)) (by omega) (by omega)] at a3
  have fb := fewR_bd S
  have fl := fewR_len (r := r) (f := f) (n := A.length) (l := abAt A) (by omega)
  have t := t12_4 r f p2 p3 p4 (cs := cs) (own := own) S h2 h3 h4 bd T1 hTm hTi
  generalize fewR r f A.length (abAt A) = F at *
  have L0 := l12_0 r f w p2 p3 p4 (cs := cs) (own := own) A m2 h3 h4 mo A.length 0 (by omega)
  have L2 := l12_2 r f p2 p3 p4 A.length (cs := cs) (own := own) (A.flatMap abG) ((A.map negA).flatMap abG) ((A.map (mvA p3 p4)).flatMap abG) h4 T hTm hTb T.length 0 (by omega)
  have L4 := l12_4 r f p2 p3 p4 A.length (cs := cs) (own := own) (A.flatMap abG) ((A.map negA).flatMap abG) ((A.map (mvA p3 p4)).flatMap abG) h4 T (T.map fun v => v + (p4 : Int)) F fl fb F.length 0 (by omega)
  have q1 := fun x1 x2 x3 x4 x5 x6 x7 x8 x9 bx => k19 F F (by omega) (b1 := 9) (b2 := 10) (h := x1 :: x2 :: x3 :: x4 :: x5 :: x6 :: x7 :: x8 :: x9 :: iB F :: iB F :: bx) rfl rfl (by decide)
  simp only [abK, h12, iB, List.length_map, Int.natCast_zero, List.take_zero, List.map_nil, List.flatMap_nil, List.length_nil, decide_true] at *
  generalize (F.map fun v => v + (p4 : Int)).map iv = FF at *
  generalize (T.map fun v => v + (p4 : Int)).map iv = TT at *
  generalize A.flatMap abG = M0 at *
  generalize (A.map negA).flatMap abG = M1 at *
  generalize (A.map (mvA p3 p4)).flatMap abG = M2 at *
  simp (maxSteps := 1000000) (disch := first | omega | decide | assumption | simp [scal]) [loadA_eq ia_75, za_24, sz_24, o_fieldAddr fa_24_1 (by decide), loadA_eq ia_3, o_fieldAddr fa_24_0 (by decide), o_build za_24 pl_24, o_fieldAddr fa_24_2 (by decide), loadA_eq ia_22, lenA_sl lk_22, o_indexAddrS es_22, loadA_eq ia_59, za_59, sz_59, o_fieldAddr fa_59_0 (by decide), o_fieldAddr fa_59_1 (by decide), o_fieldAddr fa_57_1 (by decide), o_fieldAddr fa_57_0 (by decide), ze_22, o_buildSlice es_22 ze_22 (by decide) ba_22_1, ap_22, builtin_append ni_22, sz_22, o_convI cv_5_3, o_convI cv_50_3, lenA_sl lk_25, o_indexAddrS es_25, ze_25, o_buildSlice es_25 ze_25 (by decide) ba_25_1, ap_25, builtin_append ni_25, loadA_eq ia_24, za_57, sz_57, loadA_eq ia_57, o_build za_57 pl_57, want_some q12_54g2, want_some q12_54g6, want_some q12_54g10, want_some q12_54g16, want_some q12_97g3, want_some q12_97g8, want_some q12_97g13, want_some q12_135g13, want_some q12_135g24, -n12_83s, eW, a0, a5, a1, a2, a3, q1, L0, L2, L4, t]
end
end Go.Proofs.Ytiafgimgcbmgaaa.bl
