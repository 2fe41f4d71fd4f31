/-
  Contracts of functions of the program at the limit evaluator, continued. No condition.
-/
import Derived.Test.YtfccmddkblbeoaaRH1
import Derived.Test.YtfccmddkblbeoaaE40
namespace Go.Proofs.Ytfccmddkblbeoaa.rk
open Go.GE
set_option linter.unusedVariables false
set_option linter.unusedSimpArgs false
set_option linter.unusedSectionVars false
set_option maxRecDepth 100000
set_option maxHeartbeats 4000000
theorem pth_app {nx : Nat → Nat → Bool} {n : Nat} : ∀ (B O : List Nat) (M : Nat), pth nx n M (B ++ O) ↔ pth nx n M B ∧ pth nx n (B.foldl (fun M i => M ||| 2 ^ i) M) O := by
  intro B
  induction B with
  | nil => intro O M; simp [pth]
  | cons b B ih => intro O M; simp only [List.cons_append, pth, List.foldl_cons, ih]; simp only [and_assoc]
theorem mkS_lt {n : Nat} {B : List Nat} (hB : ∀ x, x ∈ B → x < n) : mkS B < 2 ^ n := by
  refine Nat.lt_pow_two_of_testBit _ fun i hi => ?_
  rw [mkS_bit]
  exact decide_eq_false fun h => by have := hB i h; omega
section
variable {nx : Nat → Nat → Bool} (hnx : ∀ M i, nx M i = true → M.testBit i = false) {n : Nat} (n5 : n ≤ 5)
include hnx in
include hnx n5 in
theorem gB_step {s i : Nat} (hs : s < 2 ^ n) (hi : i < n) (hx : nx s i = true) (hg : 0 < gB nx n s) : 0 < gB nx n (s ||| 2 ^ i) ∧ s ||| 2 ^ i < 2 ^ n ∧ sizeN (s ||| 2 ^ i) = sizeN s + 1 := by
  have hb := hnx s i hx
  have h32 : 2 ^ n ≤ 2 ^ 5 := Nat.pow_le_pow_right (by decide) n5
  have ht : s ||| 2 ^ i < 2 ^ n := Nat.or_lt_two_pow hs (Nat.pow_lt_pow_right (by decide) hi)
  have ha := adn_same (show i < 32 by omega) (s := s) (by omega) hb
  have htb : (s ||| 2 ^ i).testBit i = true := by rw [bit_or]; simp
  have h0 : s ||| 2 ^ i ≠ 0 := fun h => by rw [h] at htb; simp at htb
  have hc := cntU_adn hi (by omega) (show s ||| 2 ^ i < 2 ^ 32 by omega) htb
  rw [ha] at hc
  have z1 := size_cnt n5 hs
  have z2 := size_cnt n5 ht
  refine ⟨?_, ht, by omega⟩
  rw [gB_sum (by omega) ht h0]
  refine Nat.lt_of_lt_of_le ?_ (cS_ge (d := i) n 0 (by omega) (by omega))
  rw [htb, ha, hx]
  exact hg
include hnx n5 in
theorem gB_of : ∀ (k : Nat) (B : List Nat), B.length = k → pth nx n 0 B → 0 < gB nx n (mkS B) ∧ mkS B < 2 ^ n ∧ sizeN (mkS B) = B.length := by
  intro k
  induction k with
  | zero =>
    intro B hB _
    obtain rfl := List.length_eq_zero_iff.1 hB
    have h0 : sizeN 0 = 0 := by have := size_cnt n5 (Nat.two_pow_pos n); rw [cntU_zero] at this; omega
    have e : gB nx n 0 = 1 := by unfold gB; rw [cntU_zero, Nat.sub_self]; rfl
    show 0 < gB nx n 0 ∧ 0 < 2 ^ n ∧ sizeN 0 = 0
    exact ⟨by omega, Nat.two_pow_pos n, h0⟩
  | succ k ih =>
    intro B hB hp
    have hne : B ≠ [] := fun h => by rw [h] at hB; simp at hB
    have hd := List.dropLast_concat_getLast hne
    generalize B.dropLast = C at hd
    generalize B.getLast hne = i at hd
    subst hd
    rw [pth_app] at hp
    obtain ⟨p1, p2⟩ := hp
    simp only [List.length_append, List.length_singleton] at hB ⊢
    obtain ⟨g1, g2, g3⟩ := ih C (by omega) p1
    have := gB_step hnx n5 g2 p2.1 p2.2.1 g1
    rw [mkS_app]
    exact ⟨this.1, this.2.1, by rw [this.2.2, g3]⟩
include hnx n5 in
theorem gB_to : ∀ (k s : Nat), sizeN s = k → s < 2 ^ n → 0 < gB nx n s → ∃ B, pth nx n 0 B ∧ B.length = k ∧ mkS B = s := by
  intro k
  induction k with
  | zero =>
    intro s hz hs _
    have := size_cnt n5 hs
    have e := none_bits hs (show cntU n s = n by omega)
    subst e
    exact ⟨[], trivial, rfl, rfl⟩
  | succ k ih =>
    intro s hz hs hg
    have h32 : 2 ^ n ≤ 2 ^ 5 := Nat.pow_le_pow_right (by decide) n5
    have h0 : s ≠ 0 := by
      rintro rfl
      have := size_cnt n5 (Nat.two_pow_pos n)
      rw [cntU_zero] at this
      omega
    rw [gB_sum (by omega) hs h0] at hg
    obtain ⟨j, _, hj, hp⟩ := cS_pos _ _ hg
    cases hb : (s.testBit j && nx (adn s j) j)
    · rw [hb] at hp; simp at hp
    · rw [hb] at hp
      simp only [cond_true] at hp
      rw [Bool.and_eq_true] at hb
      have hc := cntU_adn (show j < n by omega) (by omega) (show s < 2 ^ 32 by omega) hb.1
      have ht : adn s j < 2 ^ n := Nat.lt_of_le_of_lt adn_le hs
      have z1 := size_cnt n5 hs
      have z2 := size_cnt n5 ht
      obtain ⟨B, b1, b2, b3⟩ := ih (adn s j) (by omega) ht hp
      refine ⟨B ++ [j], ?_, by simp [b2], ?_⟩
      · rw [pth_app]
        refine ⟨b1, by omega, ?_, trivial⟩
        show nx (mkS B) j = true
        rw [b3]; exact hb.2
      · rw [mkS_app, b3, adn_or (by omega) (by omega) hb.1]
end
section
variable {A : List (Int × Int)} {n : Nat} {M : List (List Nat)} (H : OkM A) (hA : A.length = n) (n5 : n ≤ 5) (hM : M = ords (nxB (spAt A) n) n n 0)
include H hA n5 hM
/-- each beginning can be continued -/
theorem ext_of {B : List Nat} (hp : pth (nxB (spAt A) n) n 0 B) : ∃ O, O ∈ M ∧ O.take B.length = B := by
  obtain ⟨g1, g2, g3⟩ := gB_of (fun M i h => nxB_bit h) n5 _ B rfl hp
  have hpos := gR_pos (l := spAt A) (n := n) (fun i hi => (H.at (by omega)).2.1) _ (mkS B) rfl
  unfold gR at hpos
  rw [← ords_len] at hpos
  obtain ⟨O', hO'⟩ : ∃ O', O' ∈ ords (nxB (spAt A) n) n (cntU n (mkS B)) (mkS B) := ⟨_, List.getElem_mem hpos⟩
  obtain ⟨o1, o2⟩ := (ords_mem _ _ _).1 hO'
  have z := size_cnt n5 g2
  refine ⟨B ++ O', ?_, by simp⟩
  rw [hM, ords_mem]
  refine ⟨by simp only [List.length_append]; omega, ?_⟩
  rw [pth_app]
  exact ⟨hp, o2⟩
theorem pre_of {O : List Nat} (hO : O ∈ M) (K : Nat) : pth (nxB (spAt A) n) n 0 (O.take K) := by
  rw [hM] at hO
  have := ((ords_mem _ _ _).1 hO).2
  rw [← List.take_append_drop K O, pth_app] at this
  exact this.1
theorem grp_mem {K x : Nat} (hK : K ≤ n) : x ∈ grL (nxB (spAt A) n) n K (2 ^ n) 0 ↔ ∃ O, O ∈ M ∧ mkS (O.take K) = x := by
  have key : ∀ q s, x ∈ grL (nxB (spAt A) n) n K q s ↔ s ≤ x ∧ x < s + q ∧ inG (nxB (spAt A) n) n K x = true := by
    intro q
    induction q with
    | zero => intro s; simp [grL]; omega
    | succ q ih =>
      intro s
      unfold grL
      split
      · rename_i hx
        simp only [List.mem_cons, ih]
        constructor
        · rintro (rfl | h)
          · exact ⟨by omega, by omega, hx⟩
          · exact ⟨by omega, by omega, h.2.2⟩
        · rintro ⟨a, b, c⟩
          by_cases e : x = s
          · exact .inl e
          · exact .inr ⟨by omega, by omega, c⟩
      · rename_i hx
        rw [ih]
        constructor
        · rintro ⟨a, b, c⟩; exact ⟨by omega, by omega, c⟩
        · rintro ⟨a, b, c⟩
          by_cases e : x = s
          · subst e; exact absurd c hx
          · exact ⟨by omega, by omega, c⟩
  rw [key]
  unfold inG
  simp only [Nat.zero_le, Nat.zero_add, true_and, Bool.and_eq_true, decide_eq_true_eq]
  constructor
  · rintro ⟨h1, h2, h3⟩
    obtain ⟨B, b1, b2, b3⟩ := gB_to (fun M i h => nxB_bit h) n5 K x (by omega) h1 h3
    obtain ⟨O, o1, o2⟩ := ext_of H hA n5 hM b1
    refine ⟨O, o1, ?_⟩
    rw [← b2, o2, b3]
  · rintro ⟨O, hO, rfl⟩
    have hp := pre_of H hA n5 hM hO K
    obtain ⟨g1, g2, g3⟩ := gB_of (fun M i h => nxB_bit h) n5 _ _ rfl hp
    have hl : O.length = n := by rw [hM] at hO; exact ((ords_mem _ _ _).1 hO).1
    refine ⟨g2, ?_, g1⟩
    rw [g3, List.length_take]
    omega
/-- sets that hold whoever is surely quieter are beginnings -/
theorem dc_pos : ∀ (k s : Nat), sizeN s = k → s < 2 ^ n → (∀ j, j < n → s.testBit j = true → ∀ t, t < n → s.testBit t = false → quiet (spAt A) t j = false) → 0 < gB (nxB (spAt A) n) n s := by
  have h32 : 2 ^ n ≤ 2 ^ 5 := Nat.pow_le_pow_right (by decide) n5
  intro k
  induction k with
  | zero =>
    intro s hz hs _
    have := size_cnt n5 hs
    have e := none_bits hs (show cntU n s = n by omega)
    subst e
    have e : gB (nxB (spAt A) n) n 0 = 1 := by unfold gB; rw [cntU_zero, Nat.sub_self]; rfl
    omega
  | succ k ih =>
    intro s hz hs hd
    -- the one with the highest Hi
    have hmax : ∀ m, m ≤ n → (∀ i, i < m → s.testBit i = false) ∨ ∃ j, j < m ∧ s.testBit j = true ∧ ∀ i, i < m → s.testBit i = true → (spAt A i).2 ≤ (spAt A j).2 := by
      intro m
      induction m with
      | zero => intro _; exact .inl fun i hi => by omega
      | succ m im =>
        intro hm
        cases hb : s.testBit m
        · rcases im (by omega) with h | ⟨j, j1, j2, j3⟩
          · exact .inl fun i hi => by
              by_cases e : i = m
              · subst e; exact hb
              · exact h i (by omega)
          · exact .inr ⟨j, by omega, j2, fun i hi hi' => by
              by_cases e : i = m
              · subst e; rw [hb] at hi'; cases hi'
              · exact j3 i (by omega) hi'⟩
        · rcases im (by omega) with h | ⟨j, j1, j2, j3⟩
          · refine .inr ⟨m, by omega, hb, fun i hi hi' => ?_⟩
            by_cases e : i = m
            · subst e; omega
            · rw [h i (by omega)] at hi'; cases hi'
          · by_cases hc : (spAt A m).2 ≤ (spAt A j).2
            · refine .inr ⟨j, by omega, j2, fun i hi hi' => ?_⟩
              by_cases e : i = m
              · subst e; exact hc
              · exact j3 i (by omega) hi'
            · refine .inr ⟨m, by omega, hb, fun i hi hi' => ?_⟩
              by_cases e : i = m
              · subst e; omega
              · have := j3 i (by omega) hi'; omega
    rcases hmax n (Nat.le_refl _) with h | ⟨j, j1, j2, j3⟩
    · have e : s = 0 := Nat.eq_of_testBit_eq fun i => by
        rw [Nat.zero_testBit]
        by_cases hi : i < n
        · exact h i hi
        · exact Nat.testBit_lt_two_pow (Nat.lt_of_lt_of_le hs (Nat.pow_le_pow_right (by decide) (by omega)))
      subst e
      have := size_cnt n5 (Nat.two_pow_pos n)
      rw [cntU_zero] at this
      omega
    · have hc := cntU_adn j1 (by omega) (show s < 2 ^ 32 by omega) j2
      have ht : adn s j < 2 ^ n := Nat.lt_of_le_of_lt adn_le hs
      have z1 := size_cnt n5 hs
      have z2 := size_cnt n5 ht
      have bt : ∀ i, (adn s j).testBit i = (s.testBit i && !decide (j = i)) := fun i => adn_bit (by omega) (by omega)
      have hg := ih (adn s j) (by omega) ht fun i hi hb t ht' hb' => by
        rw [bt] at hb hb'
        simp only [Bool.and_eq_true, Bool.not_eq_true', decide_eq_false_iff_not] at hb
        by_cases e : t = j
        · subst e
          have := j3 i hi hb.1
          have := (H.at (show i < A.length by omega)).2.1
          unfold quiet
          exact decide_eq_false (by omega)
        · refine hd i hi hb.1 t ht' ?_
          simp only [Bool.and_eq_false_iff, Bool.not_eq_false', decide_eq_true_eq] at hb'
          rcases hb' with h | h
          · exact h
          · exact absurd h.symm e
      have hx : nxB (spAt A) n (adn s j) j = true := by
        unfold nxB
        rw [Bool.and_eq_true]
        refine ⟨by rw [adn_off (by omega) (by omega)]; rfl, (nxK_iff _ _).2 fun t _ ht' => ?_⟩
        by_cases e : t = j
        · subst e; exact .inr (quiet_self H hA t j1)
        · cases hb : s.testBit t
          · exact .inr (hd j j1 j2 t (by omega) hb)
          · refine .inl ?_
            rw [bt, hb]
            simp only [Bool.true_and, Bool.not_eq_true', decide_eq_false_iff_not]
            exact fun h => e h.symm
      have := (gB_step (fun M i h => nxB_bit h) n5 ht j1 hx hg).1
      rwa [adn_or (by omega) (by omega) j2] at this
/-- a day can follow such a set -/
theorem at_of {s i : Nat} (hi : i < n) (hs : s < 2 ^ n) (hd : ∀ j, j < n → s.testBit j = true → ∀ t, t < n → s.testBit t = false → quiet (spAt A) t j = false)
    (hb : s.testBit i = false) (hq : ∀ t, t < n → s.testBit t = false → quiet (spAt A) t i = false) : ∃ O, O ∈ M ∧ O[sizeN s]? = some i := by
  have hg := dc_pos H hA n5 hM _ s rfl hs hd
  obtain ⟨B, b1, b2, b3⟩ := gB_to (fun M i h => nxB_bit h) n5 _ s rfl hs hg
  have hx : nxB (spAt A) n s i = true := by
    unfold nxB
    rw [Bool.and_eq_true]
    refine ⟨by rw [hb]; rfl, (nxK_iff _ _).2 fun t _ ht' => ?_⟩
    cases hb' : s.testBit t
    · exact .inr (hq t (by omega) hb')
    · exact .inl rfl
  obtain ⟨O, o1, o2⟩ := ext_of H hA n5 hM (B := B ++ [i]) (by
    rw [pth_app]
    refine ⟨b1, hi, ?_, trivial⟩
    show nxB (spAt A) n (mkS B) i = true
    rw [b3]; exact hx)
  refine ⟨O, o1, ?_⟩
  have h2 : (O.take (B ++ [i]).length)[sizeN s]? = some i := by
    rw [o2, ← b2, List.getElem?_append_right (Nat.le_refl _), Nat.sub_self]; rfl
  rw [List.getElem?_take] at h2
  split at h2
  · exact h2
  · cases h2
end
end Go.Proofs.Ytfccmddkblbeoaa.rk
namespace Go.Proofs.Ytfccmddkblbeoaa.rk
open Go.GE
set_option linter.unusedVariables false
set_option linter.unusedSimpArgs false
set_option linter.unusedSectionVars false
set_option maxRecDepth 100000
set_option maxHeartbeats 4000000
attribute [local simp] runOps_nil runOps_cons runOpsF_nil runOpsF_cons fstS_some fstF_some opStep_eq want_none oStep_true oStep_false fin_pure fin_read fin_alloc fin_write storeB wrN cellV addWr o_move o_assign o_pick o_alloc o_box o_load o_store o_nilCheck o_bin o_un o_extract o_callV o_callB o_callI callV_f callV_y callV_fc o_makeFunc partsA Instr.fill builtin_len builtin_max2 bin_add bin_sub bin_mul bin_quo bin_rem bin_lss bin_leq bin_gtr bin_geq bin_eql bin_neq un_neg un_not bin_shr bin_shl wrap_u64_id opd opds optAll putO nbeq nblt constOk isC ops sub cl cr co bodyOf thenS_normal thenS_ret thenS_exit thenS_goto afterN_normal afterN_ret afterN_exit afterN_goto condS_true condS_false blockS_normal blockS_ret blockS_exit blockS_goto headS normS normK_eq fixS_nil fixS_cons fix1 fixV emptyB keepO_nil keepO_cons roundC_normal roundC_exit roundC_ret roundC_goto sweep_eq sweepD rnm pickR pickW rootsB ptrT renT ptrFn renFn ptrB_flat ptrB_non renB_flat renB_non plainS_some drawS_some fpsOk disj unord range' dropTo enumT undef wrap_i64_id Value.cells mkCells ptrTo scal cellsAt rdN endS_ret resultsA Option.bind_some tupV finish reachN dep ptrL_eq ptrL renL_eq renL ptrV_bool ptrV_int ptrV_string ptrV_nilFunc ptrV_nilIface ptrV_nilPtr ptrV_ptr ptrV_nilSl ptrV_sl ptrV_iface ptrV_agg ptrV_tuple ptrV_func renV_bool renV_int renV_string renV_nilFunc renV_nilIface renV_nilPtr renV_ptr renV_nilSl renV_sl renV_iface renV_agg renV_tuple renV_func gotoS_goto gotoS_normal gotoS_exit gotoS_ret skip_seq sliceE bnd bndHi intOf optOpd keepT_nil keepT_cons keepC_t keepC_f lk_nil lk_cons lkC_t lkC_f has_nil has_cons hasC_t hasC_f rep_nil rep_cons repC_t repC_f put_eq putC_t putC_f mem_nil mem_cons memC_t memC_f idx_nil idx_cons idxC_t idxC_f reach_nil reachP_cons reachQ_t reachQ_f ptrB_dead renB_dead ins_eq
attribute [local simp] n8_1s n8_3s n8_5s n8_7s n8_9s n8_11s n8_13s n8_16s n8_19s n8_20s n8_18s n8_21s n8_17s n8_15s n8_23s n8_26s n8_30s n8_33s n8_34s n8_32s n8_38s n8_40s n8_43s n8_47s n8_50s n8_51s n8_49s n8_55s n8_57s n8_61s n8_64s n8_65s n8_63s n8_69s n8_71s n8_73s n8_74s n8_72s n8_70s n8_68s n8_67s n8_75s n8_66s n8_62s n8_60s n8_59s n8_59g n8_58s n8_56s n8_54s n8_53s n8_76s n8_52s n8_48s n8_46s n8_45s n8_45g n8_44s n8_42s n8_79s n8_82s n8_83s n8_81s n8_84s n8_80s n8_78s n8_87s n8_91s n8_94s n8_95s n8_93s n8_99s n8_101s n8_103s n8_104s n8_102s n8_100s n8_98s n8_97s n8_105s n8_96s n8_92s n8_90s n8_89s n8_89g n8_88s n8_86s n8_108s n8_110s n8_111s n8_109s n8_107s n8_113s n8_115s n8_116s n8_114s n8_112s n8_106s n8_85s n8_77s n8_41s n8_39s n8_37s n8_36s n8_117s n8_35s n8_31s n8_29s n8_28s n8_28g n8_27s n8_25s n8_119s n8_122s n8_126s n8_129s n8_130s n8_128s n8_134s n8_136s n8_139s n8_143s n8_146s n8_147s n8_145s n8_151s n8_152s n8_150s n8_149s n8_153s n8_148s n8_144s n8_142s n8_141s n8_141g n8_140s n8_138s n8_154s n8_137s n8_135s n8_133s n8_132s n8_155s n8_131s n8_127s n8_125s n8_124s n8_124g n8_123s n8_121s n8_157s n8_158s n8_156s n8_120s n8_118s n8_24s n8_22s n8_14s n8_12s n8_10s n8_8s n8_6s n8_4s n8_2s n8_0s Try.f8
theorem builtin_min2 {h : List Blk} {ts : List TypeId} {k k' : IntKind} {a b : Int} : builtinA Try.prog h .min ts [.int k a, .int k' b] = pureR h (.int k (if b < a then b else a)) := by
  cases ts <;> rfl
/-- the least and the greatest place of a day, by the law's loops -/
def mnO (i : Nat) : List Nat → Nat → Nat → Nat
  | [], _, a => a
  | d :: O, j, a => mnO i O (j + 1) (if d = i then (if j + 1 < a then j + 1 else a) else a)
def mxO (i : Nat) : List Nat → Nat → Nat → Nat
  | [], _, a => a
  | d :: O, j, a => mxO i O (j + 1) (if d = i then (if a < j + 1 then j + 1 else a) else a)
def mnM (i : Nat) : List (List Nat) → Nat → Nat
  | [], a => a
  | O :: M, a => mnM i M (mnO i O 0 a)
def mxM (i : Nat) : List (List Nat) → Nat → Nat
  | [], a => a
  | O :: M, a => mxM i M (mxO i O 0 a)
section
variable (K0 : Blk) {B1 B2 B3 B4 B5 B6 : Blk} (hB1 : noIdB B1) (hB2 : noIdB B2) (hB3 : noIdB B3) (hB4 : noIdB B4) (hB5 : noIdB B5) (hB6 : noIdB B6) {M : List (List Nat)} (hk : M.length ≤ 5000)
include hB1 hB2 hB3 hB4 hB5 hB6 hk
theorem sw8 {R : List Blk} (σ : Tm) (tl : List Nat) (hp : ptrT σ = 1 :: 2 :: 3 :: 4 :: 5 :: 6 :: 7 :: tl) (h7 : tl.length ≤ 100) (htl : ∀ b, b ∈ tl → b = 7 ∨ (8 ≤ b ∧ b < 8 + M.length)) (hσ : ∀ f : Nat → Option Nat, f 1 = some 1 → f 2 = some 2 → f 3 = some 3 → f 4 = some 4 → f 5 = some 5 → f 6 = some 6 → f 7 = some 7 → (∀ j, j < M.length → f (8 + j) = some (8 + j)) → renT f σ = some σ) :
    sweep 1 ⟨σ, K0 :: B1 :: B2 :: B3 :: B4 :: B5 :: B6 :: lsB 8 M :: (M.map nB ++ R), []⟩ = some ⟨σ, K0 :: B1 :: B2 :: B3 :: B4 :: B5 :: B6 :: lsB 8 M :: M.map nB, []⟩ := by
  refine sweep_pre (base := 1) (H := K0 :: B1 :: B2 :: B3 :: B4 :: B5 :: B6 :: lsB 8 M :: (M.map nB ++ R)) (M := M) (N := 7) (p := 8) [1, 2, 3, 4, 5, 6] [B1, B2, B3, B4, B5, B6] tl rfl ?_ (by decide) ?_ rfl ?_ (by omega) (by omega) (by omega) (by omega) (by decide) h7 hp htl ?_
  · intro blk hb
    simp only [List.mem_cons, List.not_mem_nil, or_false] at hb
    rcases hb with rfl | rfl | rfl | rfl | rfl | rfl <;> assumption
  · intro b hb
    simp only [List.mem_cons, List.not_mem_nil, or_false] at hb
    omega
  · intro j O hj
    rw [show 8 + j = j + 1 + 1 + 1 + 1 + 1 + 1 + 1 + 1 by omega]
    simp only [List.getElem?_cons_succ]
    exact map_left hj
  · intro f h1 h2 h3
    exact hσ f (h1 0 1 rfl) (h1 1 2 rfl) (h1 2 3 rfl) (h1 3 4 rfl) (h1 4 5 rfl) (h1 5 6 rfl) h2 h3
theorem l8c (n kk c1 c2 c3 c4 i t : Nat) (g : Int) {O : List Nat} (hMt : M[t]? = some O) (hO : O.length = n) (n5 : n ≤ 5) : ∀ (q j a b : Nat), j + q = n →
    lpB Try.prog LL ⟨8, 188, 1, none⟩ n8_59 n8_60 ⟨[(92, iv n), (93, iv j), (17, iv i), (18, iv a), (19, iv b), (20, iv 0), (86, iv M.length), (87, iv t), (5, sl 1 0 n n), (6, iv kk), (8, sl 2 0 n n), (10, sl 3 0 c1 c1), (11, sl 4 0 c2 c2), (13, iv g), (15, sl 5 0 c3 c3), (16, sl 6 0 c4 c4), (79, iv n), (80, iv i), (7, sl 7 0 M.length M.length), (85, sl 7 0 M.length M.length), (91, sl (8 + t) 0 n n)], K0 :: B1 :: B2 :: B3 :: B4 :: B5 :: B6 :: lsB 8 M :: M.map nB, []⟩ =
      some (.exit 4, ⟨[(17, iv i), (18, iv (mnO i (O.drop j) j a)), (19, iv (mxO i (O.drop j) j b)), (20, iv 0), (86, iv M.length), (87, iv t), (5, sl 1 0 n n), (6, iv kk), (8, sl 2 0 n n), (10, sl 3 0 c1 c1), (11, sl 4 0 c2 c2), (13, iv g), (15, sl 5 0 c3 c3), (16, sl 6 0 c4 c4), (79, iv n), (80, iv i), (7, sl 7 0 M.length M.length), (85, sl 7 0 M.length M.length)], K0 :: B1 :: B2 :: B3 :: B4 :: B5 :: B6 :: lsB 8 M :: M.map nB, []⟩) := by
  have ht := (List.getElem?_eq_some_iff.1 hMt).1
  have s1 : ∀ (j a b : Int), sweep 1 ⟨[(92, iv n), (93, iv j), (17, iv i), (18, iv a), (19, iv b), (20, iv 0), (86, iv M.length), (87, iv t), (5, sl 1 0 n n), (6, iv kk), (8, sl 2 0 n n), (10, sl 3 0 c1 c1), (11, sl 4 0 c2 c2), (13, iv g), (15, sl 5 0 c3 c3), (16, sl 6 0 c4 c4), (79, iv n), (80, iv i), (7, sl 7 0 M.length M.length), (85, sl 7 0 M.length M.length), (91, sl (8 + t) 0 n n)], K0 :: B1 :: B2 :: B3 :: B4 :: B5 :: B6 :: lsB 8 M :: (M.map nB ++ []), []⟩ = _ := fun j a b  =>
    sw8 K0 hB1 hB2 hB3 hB4 hB5 hB6 hk _ [7, 8 + t] rfl (by simp) (by intro z hz; simp at hz; omega) (fun f h1 h2 h3 h4 h5 h6 h7 h8 => by have := h8 t ht; simp [renT, renV_sl, renV_int, renV_ptr, dep, h1, h2, h3, h4, h5, h6, h7, this])
  have s2 : ∀ (a b : Int), sweep 1 ⟨[(17, iv i), (18, iv a), (19, iv b), (20, iv 0), (86, iv M.length), (87, iv t), (5, sl 1 0 n n), (6, iv kk), (8, sl 2 0 n n), (10, sl 3 0 c1 c1), (11, sl 4 0 c2 c2), (13, iv g), (15, sl 5 0 c3 c3), (16, sl 6 0 c4 c4), (79, iv n), (80, iv i), (7, sl 7 0 M.length M.length), (85, sl 7 0 M.length M.length)], K0 :: B1 :: B2 :: B3 :: B4 :: B5 :: B6 :: lsB 8 M :: (M.map nB ++ []), []⟩ = _ := fun a b  =>
    sw8 K0 hB1 hB2 hB3 hB4 hB5 hB6 hk _ [7] rfl (by simp) (by simp) (fun f h1 h2 h3 h4 h5 h6 h7 h8 => by simp [renT, renV_sl, renV_int, renV_ptr, dep, h1, h2, h3, h4, h5, h6, h7])
  simp only [List.append_nil] at s1 s2
  have g1 := map_at hMt
  have g4 : ∀ (z1 z2 z3 z4 z5 z6 z7 z8 : Blk), (z1 :: z2 :: z3 :: z4 :: z5 :: z6 :: z7 :: z8 :: M.map nB)[8 + t]? = some (nB O) := fun z1 z2 z3 z4 z5 z6 z7 z8 => by
    rw [show 8 + t = t + 1 + 1 + 1 + 1 + 1 + 1 + 1 + 1 by omega]; exact g1
  simp only [lsB, nB] at s1 s2 g4 ⊢
  generalize M.map (fun L => Blk.cells (nm L) 1 true true) = Q at *
  generalize slS 8 M = X at *
  generalize M.length = N at *
  generalize 8 + t = ti at *
  intro q
  induction q with
  | zero =>
    intro j a b hj
    obtain rfl : j = n := by omega
    rw [← hO, List.drop_length]
    simp only [mnO, mxO]
    rw [hO, lpB_eq]
    simp (maxSteps := 1000000) (disch := first | omega | decide | assumption | simp [scal]) [o_convI cv_5_3, lenA_sl lk_22, lenA_sl lk_49, o_indexAddrS es_49, loadA_eq ia_24, lenA_sl lk_24, o_indexAddrS es_24, loadA_eq ia_3, o_indexAddrS es_22, loadA_eq ia_55, za_55, o_build za_55 pl_55, o_sliceS sl_24, ze_24, o_buildSlice es_24 ze_24 (by decide) ba_24_1, ap_24, builtin_append ni_24, want_some q8_16g2, want_some q8_16g6, want_some q8_16g10, want_some q8_157g3, want_some q8_157g8, want_some q8_157g14, -sweep_eq, s1, s2]
  | succ q ih =>
    intro j a b hj
    have e0 : j < n := by omega
    have e1 : (j : Int) < n := by omega
    obtain ⟨d, hd⟩ : ∃ d, O[j]? = some d := ⟨O[j], List.getElem?_eq_getElem (by omega)⟩
    have g3 : (nm O)[j]? = some (iv d) := by simp [nm, hd]
    have hdr : O.drop j = d :: O.drop (j + 1) := by
      rw [List.drop_eq_getElem_cons (show j < O.length by omega)]
      congr 1
      rw [List.getElem?_eq_getElem (by omega)] at hd
      exact Option.some.inj hd
    rw [hdr]
    simp only [mnO, mxO]
    by_cases h1 : d = i
    · have h1' : (d : Int) = i := by omega
      rw [if_pos h1, if_pos h1]
      have this := ih (j + 1) (if j + 1 < a then j + 1 else a) (if b < j + 1 then j + 1 else b) (by omega)
      clear ih hdr
      by_cases h2 : j + 1 < a <;> by_cases h3 : b < j + 1 <;> simp only [h2, h3, if_true, if_false] at this ⊢ <;> (
        have h2' := h2
        have h3' := h3
        rw [← Int.ofNat_lt] at h2' h3'
        simp only [cast1] at this h2' h3'
        generalize mnO i (O.drop (j + 1)) (j + 1) _ = Z1 at *
        generalize mxO i (O.drop (j + 1)) (j + 1) _ = Z2 at *
        rw [lpB_eq]
        simp (maxSteps := 1000000) (disch := first | omega | decide | assumption | simp [scal]) [o_convI cv_5_3, lenA_sl lk_22, lenA_sl lk_49, o_indexAddrS es_49, loadA_eq ia_24, lenA_sl lk_24, o_indexAddrS es_24, loadA_eq ia_3, o_indexAddrS es_22, loadA_eq ia_55, za_55, o_build za_55 pl_55, o_sliceS sl_24, ze_24, o_buildSlice es_24 ze_24 (by decide) ba_24_1, ap_24, builtin_append ni_24, want_some q8_16g2, want_some q8_16g6, want_some q8_16g10, want_some q8_157g3, want_some q8_157g8, want_some q8_157g14, -sweep_eq, e0, e1, g3, g4, s1, s2, h1, h1', h2, h3, h2', h3', builtin_min2, this])
    · have h1' : ¬ (d : Int) = i := by omega
      rw [if_neg h1, if_neg h1]
      have this := ih (j + 1) a b (by omega)
      simp only [cast1] at this
      clear ih hdr
      generalize mnO i (O.drop (j + 1)) (j + 1) a = Z1 at *
      generalize mxO i (O.drop (j + 1)) (j + 1) b = Z2 at *
      rw [lpB_eq]
      simp (maxSteps := 1000000) (disch := first | omega | decide | assumption | simp [scal]) [o_convI cv_5_3, lenA_sl lk_22, lenA_sl lk_49, o_indexAddrS es_49, loadA_eq ia_24, lenA_sl lk_24, o_indexAddrS es_24, loadA_eq ia_3, o_indexAddrS es_22, loadA_eq ia_55, za_55, o_build za_55 pl_55, o_sliceS sl_24, ze_24, o_buildSlice es_24 ze_24 (by decide) ba_24_1, ap_24, builtin_append ni_24, want_some q8_16g2, want_some q8_16g6, want_some q8_16g10, want_some q8_157g3, want_some q8_157g8, want_some q8_157g14, -sweep_eq, e0, e1, g3, g4, s1, s2, h1, h1', this]
theorem l8b (n kk c1 c2 c3 c4 i : Nat) (g : Int) (hO : ∀ O, O ∈ M → O.length = n) (n5 : n ≤ 5) : ∀ (q t a b : Nat), t + q = M.length →
    lpB Try.prog LL ⟨8, 188, 1, none⟩ n8_45 n8_46 ⟨[(17, iv i), (18, iv a), (19, iv b), (20, iv 0), (86, iv M.length), (87, iv t), (5, sl 1 0 n n), (6, iv kk), (8, sl 2 0 n n), (10, sl 3 0 c1 c1), (11, sl 4 0 c2 c2), (13, iv g), (15, sl 5 0 c3 c3), (16, sl 6 0 c4 c4), (79, iv n), (80, iv i), (7, sl 7 0 M.length M.length), (85, sl 7 0 M.length M.length)], K0 :: B1 :: B2 :: B3 :: B4 :: B5 :: B6 :: lsB 8 M :: M.map nB, []⟩ =
      some (.exit 2, ⟨[(17, iv i), (18, iv (mnM i (M.drop t) a)), (19, iv (mxM i (M.drop t) b)), (20, iv 0), (5, sl 1 0 n n), (6, iv kk), (8, sl 2 0 n n), (10, sl 3 0 c1 c1), (11, sl 4 0 c2 c2), (13, iv g), (15, sl 5 0 c3 c3), (16, sl 6 0 c4 c4), (79, iv n), (80, iv i), (7, sl 7 0 M.length M.length)], K0 :: B1 :: B2 :: B3 :: B4 :: B5 :: B6 :: lsB 8 M :: M.map nB, []⟩) := by
  have s0 : ∀ (a b t : Int), sweep 1 ⟨[(17, iv i), (18, iv a), (19, iv b), (20, iv 0), (86, iv M.length), (87, iv t), (5, sl 1 0 n n), (6, iv kk), (8, sl 2 0 n n), (10, sl 3 0 c1 c1), (11, sl 4 0 c2 c2), (13, iv g), (15, sl 5 0 c3 c3), (16, sl 6 0 c4 c4), (79, iv n), (80, iv i), (7, sl 7 0 M.length M.length), (85, sl 7 0 M.length M.length)], K0 :: B1 :: B2 :: B3 :: B4 :: B5 :: B6 :: lsB 8 M :: (M.map nB ++ []), []⟩ = _ := fun a b t  =>
    sw8 K0 hB1 hB2 hB3 hB4 hB5 hB6 hk _ [7] rfl (by simp) (by simp) (fun f h1 h2 h3 h4 h5 h6 h7 h8 => by simp [renT, renV_sl, renV_int, renV_ptr, dep, h1, h2, h3, h4, h5, h6, h7])
  have s1 : ∀ (a b : Int), sweep 1 ⟨[(17, iv i), (18, iv a), (19, iv b), (20, iv 0), (5, sl 1 0 n n), (6, iv kk), (8, sl 2 0 n n), (10, sl 3 0 c1 c1), (11, sl 4 0 c2 c2), (13, iv g), (15, sl 5 0 c3 c3), (16, sl 6 0 c4 c4), (79, iv n), (80, iv i), (7, sl 7 0 M.length M.length)], K0 :: B1 :: B2 :: B3 :: B4 :: B5 :: B6 :: lsB 8 M :: (M.map nB ++ []), []⟩ = _ := fun a b  =>
    sw8 K0 hB1 hB2 hB3 hB4 hB5 hB6 hk _ [] rfl (by simp) (by simp) (fun f h1 h2 h3 h4 h5 h6 h7 h8 => by simp [renT, renV_sl, renV_int, renV_ptr, dep, h1, h2, h3, h4, h5, h6, h7])
  simp only [List.append_nil] at s0 s1
  intro q
  induction q with
  | zero =>
    intro t a b ht
    obtain rfl : t = M.length := by omega
    rw [List.drop_length]
    simp only [mnM, mxM]
    simp only [lsB, nB] at s0 s1 ⊢
    generalize M.map (fun L => Blk.cells (nm L) 1 true true) = Q at *
    generalize slS 8 M = X at *
    rw [lpB_eq]
    simp (maxSteps := 1000000) (disch := first | omega | decide | assumption | simp [scal]) [o_convI cv_5_3, lenA_sl lk_22, lenA_sl lk_49, o_indexAddrS es_49, loadA_eq ia_24, lenA_sl lk_24, o_indexAddrS es_24, loadA_eq ia_3, o_indexAddrS es_22, loadA_eq ia_55, za_55, o_build za_55 pl_55, o_sliceS sl_24, ze_24, o_buildSlice es_24 ze_24 (by decide) ba_24_1, ap_24, builtin_append ni_24, want_some q8_16g2, want_some q8_16g6, want_some q8_16g10, want_some q8_157g3, want_some q8_157g8, want_some q8_157g14, -sweep_eq, s0, s1]
  | succ q ih =>
    intro t a b ht
    have e0 : t < M.length := by omega
    have e1 : (t : Int) < M.length := by omega
    obtain ⟨O, hMt⟩ : ∃ O, M[t]? = some O := ⟨M[t], List.getElem?_eq_getElem e0⟩
    have hOn := hO O (List.mem_of_getElem? hMt)
    have le := l8c K0 hB1 hB2 hB3 hB4 hB5 hB6 hk n kk c1 c2 c3 c4 i t g hMt hOn n5 n 0 a b (by omega)
    rw [List.drop_zero] at le
    have p1 := slS_get M 8 t O hMt
    rw [hOn] at p1
    have this := ih (t + 1) (mnO i O 0 a) (mxO i O 0 b) (by omega)
    have hdr : M.drop t = O :: M.drop (t + 1) := by
      rw [List.drop_eq_getElem_cons e0]
      congr 1
      rw [List.getElem?_eq_getElem e0] at hMt
      exact Option.some.inj hMt
    rw [hdr]
    simp only [mnM, mxM]
    have s2 : ∀ (j : Int), sweep 1 ⟨[(92, iv n), (93, iv j), (17, iv i), (18, iv a), (19, iv b), (20, iv 0), (86, iv M.length), (87, iv t), (5, sl 1 0 n n), (6, iv kk), (8, sl 2 0 n n), (10, sl 3 0 c1 c1), (11, sl 4 0 c2 c2), (13, iv g), (15, sl 5 0 c3 c3), (16, sl 6 0 c4 c4), (79, iv n), (80, iv i), (7, sl 7 0 M.length M.length), (85, sl 7 0 M.length M.length), (91, sl (8 + t) 0 n n)], K0 :: B1 :: B2 :: B3 :: B4 :: B5 :: B6 :: lsB 8 M :: (M.map nB ++ []), []⟩ = _ := fun j  =>
      sw8 K0 hB1 hB2 hB3 hB4 hB5 hB6 hk _ [7, 8 + t] rfl (by simp) (by intro z hz; simp at hz; omega) (fun f h1 h2 h3 h4 h5 h6 h7 h8 => by have := h8 t e0; simp [renT, renV_sl, renV_int, renV_ptr, dep, h1, h2, h3, h4, h5, h6, h7, this])
    simp only [List.append_nil] at s2
    generalize mnO i O 0 a = a2 at *
    generalize mxO i O 0 b = b2 at *
    generalize mnM i (M.drop (t + 1)) a2 = Z1 at *
    generalize mxM i (M.drop (t + 1)) b2 = Z2 at *
    simp only [cast1] at this
    clear ih hdr
    simp only [lsB, nB, Int.natCast_zero] at s0 s1 s2 le this ⊢
    generalize M.map (fun L => Blk.cells (nm L) 1 true true) = Q at *
    generalize slS 8 M = X at *
    generalize 8 + t = ti at *
    rw [lpB_eq]
    simp (maxSteps := 1000000) (disch := first | omega | decide | assumption | simp [scal]) [o_convI cv_5_3, lenA_sl lk_22, lenA_sl lk_49, o_indexAddrS es_49, loadA_eq ia_24, lenA_sl lk_24, o_indexAddrS es_24, loadA_eq ia_3, o_indexAddrS es_22, loadA_eq ia_55, za_55, o_build za_55 pl_55, o_sliceS sl_24, ze_24, o_buildSlice es_24 ze_24 (by decide) ba_24_1, ap_24, builtin_append ni_24, want_some q8_16g2, want_some q8_16g6, want_some q8_16g10, want_some q8_157g3, want_some q8_157g8, want_some q8_157g14, -sweep_eq, e0, e1, p1, le, s0, s1, s2, this]
end
end Go.Proofs.Ytfccmddkblbeoaa.rk
namespace Go.Proofs.Ytfccmddkblbeoaa.rk
open Go.GE
set_option linter.unusedVariables false
set_option linter.unusedSimpArgs false
set_option linter.unusedSectionVars false
set_option maxRecDepth 100000
set_option maxHeartbeats 4000000
attribute [local simp] runOps_nil runOps_cons runOpsF_nil runOpsF_cons fstS_some fstF_some opStep_eq want_none oStep_true oStep_false fin_pure fin_read fin_alloc fin_write storeB wrN cellV addWr o_move o_assign o_pick o_alloc o_box o_load o_store o_nilCheck o_bin o_un o_extract o_callV o_callB o_callI callV_f callV_y callV_fc o_makeFunc partsA Instr.fill builtin_len builtin_max2 bin_add bin_sub bin_mul bin_quo bin_rem bin_lss bin_leq bin_gtr bin_geq bin_eql bin_neq un_neg un_not bin_shr bin_shl wrap_u64_id opd opds optAll putO nbeq nblt constOk isC ops sub cl cr co bodyOf thenS_normal thenS_ret thenS_exit thenS_goto afterN_normal afterN_ret afterN_exit afterN_goto condS_true condS_false blockS_normal blockS_ret blockS_exit blockS_goto headS normS normK_eq fixS_nil fixS_cons fix1 fixV emptyB keepO_nil keepO_cons roundC_normal roundC_exit roundC_ret roundC_goto sweep_eq sweepD rnm pickR pickW rootsB ptrT renT ptrFn renFn ptrB_flat ptrB_non renB_flat renB_non plainS_some drawS_some fpsOk disj unord range' dropTo enumT undef wrap_i64_id Value.cells mkCells ptrTo scal cellsAt rdN endS_ret resultsA Option.bind_some tupV finish reachN dep ptrL_eq ptrL renL_eq renL ptrV_bool ptrV_int ptrV_string ptrV_nilFunc ptrV_nilIface ptrV_nilPtr ptrV_ptr ptrV_nilSl ptrV_sl ptrV_iface ptrV_agg ptrV_tuple ptrV_func renV_bool renV_int renV_string renV_nilFunc renV_nilIface renV_nilPtr renV_ptr renV_nilSl renV_sl renV_iface renV_agg renV_tuple renV_func gotoS_goto gotoS_normal gotoS_exit gotoS_ret skip_seq sliceE bnd bndHi intOf optOpd keepT_nil keepT_cons keepC_t keepC_f lk_nil lk_cons lkC_t lkC_f has_nil has_cons hasC_t hasC_f rep_nil rep_cons repC_t repC_f put_eq putC_t putC_f mem_nil mem_cons memC_t memC_f idx_nil idx_cons idxC_t idxC_f reach_nil reachP_cons reachQ_t reachQ_f ptrB_dead renB_dead ins_eq
attribute [local simp] n38_1s n38_4s n38_8s n38_11s n38_12s n38_10s n38_16s n38_18s n38_21s n38_22s n38_20s n38_23s n38_19s n38_17s n38_15s n38_14s n38_24s n38_13s n38_9s n38_7s n38_6s n38_6g n38_5s n38_3s n38_26s n38_27s n38_25s n38_2s n38_0s Try.f38 n8_1s n8_3s n8_5s n8_7s n8_9s n8_11s n8_13s n8_16s n8_19s n8_20s n8_18s n8_21s n8_17s n8_15s n8_23s n8_26s n8_30s n8_33s n8_34s n8_32s n8_38s n8_40s n8_43s n8_47s n8_50s n8_51s n8_49s n8_55s n8_57s n8_61s n8_64s n8_65s n8_63s n8_69s n8_71s n8_73s n8_74s n8_72s n8_70s n8_68s n8_67s n8_75s n8_66s n8_62s n8_60s n8_59s n8_59g n8_58s n8_56s n8_54s n8_53s n8_76s n8_52s n8_48s n8_46s n8_45s n8_45g n8_44s n8_42s n8_79s n8_82s n8_83s n8_81s n8_84s n8_80s n8_78s n8_87s n8_91s n8_94s n8_95s n8_93s n8_99s n8_101s n8_103s n8_104s n8_102s n8_100s n8_98s n8_97s n8_105s n8_96s n8_92s n8_90s n8_89s n8_89g n8_88s n8_86s n8_108s n8_110s n8_111s n8_109s n8_107s n8_113s n8_115s n8_116s n8_114s n8_112s n8_106s n8_85s n8_77s n8_41s n8_39s n8_37s n8_36s n8_117s n8_35s n8_31s n8_29s n8_28s n8_28g n8_27s n8_25s n8_119s n8_122s n8_126s n8_129s n8_130s n8_128s n8_134s n8_136s n8_139s n8_143s n8_146s n8_147s n8_145s n8_151s n8_152s n8_150s n8_149s n8_153s n8_148s n8_144s n8_142s n8_141s n8_141g n8_140s n8_138s n8_154s n8_137s n8_135s n8_133s n8_132s n8_155s n8_131s n8_127s n8_125s n8_124s n8_124g n8_123s n8_121s n8_157s n8_158s n8_156s n8_120s n8_118s n8_24s n8_22s n8_14s n8_12s n8_10s n8_8s n8_6s n8_4s n8_2s n8_0s Try.f8
section
variable (L : List Nat) (K m : Nat)
theorem l38w (hL : L.length ≤ 60) (hm : m ≤ L.length) : ∀ (k i : Nat), i + k = m →
    lpB Try.prog LL ⟨38, 17, 1, none⟩ n38_6 n38_7 ⟨[(1, iv K), (7, sl 0 0 m L.length), (8, iv m), (9, iv i)], [nB L], []⟩ =
      if ((L.take m).drop i).contains K = true then some (.ret, ⟨[(4, .bool true)], [nB L], []⟩) else some (.exit 0, ⟨[], [nB L], []⟩) := by
  intro k
  induction k with
  | zero =>
    intro i hi
    obtain rfl : i = m := by omega
    rw [List.drop_eq_nil_of_le (by rw [List.length_take]; omega)]
    simp only [nB, List.contains_nil, Bool.false_eq_true, if_false]
    generalize nm L = M
    rw [lpB_eq]
    simp (maxSteps := 1000000) (disch := first | omega | decide | assumption | simp [scal]) [lenA_sl lk_24, o_indexAddrS es_24, loadA_eq ia_3]
  | succ k ih =>
    intro i hi
    have e0 : i < m := by omega
    have e1 : (i : Int) < m := by omega
    have e2 : i < L.length := by omega
    have this := ih (i + 1) (by omega)
    have p1 := nm_get e2
    have hd : L.getD i 0 = L[i] := by simp [e2]
    have hl : i < (L.take m).length := by rw [List.length_take]; omega
    rw [List.drop_eq_getElem_cons hl, List.getElem_take, ← hd, List.contains_cons]
    simp only [nB] at this ⊢
    simp only [cast1] at this
    generalize L.getD i 0 = x at *
    generalize nm L = M at *
    generalize ((L.take m).drop (i + 1)).contains K = B at *
    rw [lpB_eq]
    by_cases h1 : K = x
    · subst h1
      simp only [beq_self_eq_true, Bool.true_or, if_true]
      simp (maxSteps := 1000000) (disch := first | omega | decide | assumption | simp [scal]) [lenA_sl lk_24, o_indexAddrS es_24, loadA_eq ia_3, e0, e1, p1]
    · have h1' : ¬ (x : Int) = K := by omega
      have h2 : (K == x) = false := by simp [h1]
      rw [h2, Bool.false_or]
      cases B
      · simp only [Bool.false_eq_true, if_false] at this ⊢
        simp (maxSteps := 1000000) (disch := first | omega | decide | assumption | simp [scal]) [lenA_sl lk_24, o_indexAddrS es_24, loadA_eq ia_3, e0, e1, p1, h1', this]
      · simp only [if_true] at this ⊢
        simp (maxSteps := 1000000) (disch := first | omega | decide | assumption | simp [scal]) [lenA_sl lk_24, o_indexAddrS es_24, loadA_eq ia_3, e0, e1, p1, h1', this]
end
theorem k38w (L : List Nat) (K m b : Nat) {h : List Blk} (hb : h[b]? = some (nB L)) (hL : L.length ≤ 60) (hm : m ≤ L.length) : callH LL 38 [sl b 0 m L.length, iv K] h = some ⟨.bool ((L.take m).contains K), h, [b], []⟩ := by
  refine callH_1 rfl hb noIdB_flat (args' := [sl 0 0 m L.length, iv K]) (by simp [renV, dep, optAll, idx, nbeq]) (go (by decide) ?_) fun _ => rfl
  have this := l38w L K m hL hm m 0 (by omega)
  rw [List.drop_zero] at this
  simp only [nB, Int.natCast_zero] at this ⊢
  generalize nm L = M at *
  rw [run38 _ _ _ (by simp)]
  cases h1 : (L.take m).contains K <;> rw [h1] at this <;> simp only [Bool.false_eq_true, if_false, if_true] at this
  · simp (maxSteps := 1000000) (disch := first | omega | decide | assumption | simp [scal]) [lenA_sl lk_24, o_indexAddrS es_24, loadA_eq ia_3, this]
  · simp (maxSteps := 1000000) (disch := first | omega | decide | assumption | simp [scal]) [lenA_sl lk_24, o_indexAddrS es_24, loadA_eq ia_3, this]
/-- orders along which a day is among the first ones, from some place on -/
def inB (kk i : Nat) (O : List Nat) : Bool := (O.take kk).contains i
section
variable (K0 : Blk) {B1 B2 B3 B4 B5 B6 : Blk} (hB1 : noIdB B1) (hB2 : noIdB B2) (hB3 : noIdB B3) (hB4 : noIdB B4) (hB5 : noIdB B5) (hB6 : noIdB B6) {M : List (List Nat)} (hk : M.length ≤ 5000)
include hB1 hB2 hB3 hB4 hB5 hB6 hk
theorem l8d (n kk c1 c2 c3 c4 i : Nat) (g : Int) (hO : ∀ O, O ∈ M → O.length = n) (n5 : n ≤ 5) (hkk : kk ≤ n) : ∀ (q t c : Nat), t + q = M.length → c ≤ t →
    lpB Try.prog LL ⟨8, 188, 1, none⟩ n8_89 n8_90 ⟨[(17, iv i), (20, iv c), (120, iv M.length), (121, iv t), (5, sl 1 0 n n), (6, iv kk), (8, sl 2 0 n n), (10, sl 3 0 c1 c1), (11, sl 4 0 c2 c2), (13, iv g), (15, sl 5 0 c3 c3), (16, sl 6 0 c4 c4), (79, iv n), (80, iv i), (7, sl 7 0 M.length M.length), (119, sl 7 0 M.length M.length)], K0 :: B1 :: B2 :: B3 :: B4 :: B5 :: B6 :: lsB 8 M :: M.map nB, []⟩ =
      some (.exit 6, ⟨[(17, iv i), (20, iv (c + ((M.drop t).filter (inB kk i)).length : Nat)), (5, sl 1 0 n n), (6, iv kk), (8, sl 2 0 n n), (10, sl 3 0 c1 c1), (11, sl 4 0 c2 c2), (13, iv g), (15, sl 5 0 c3 c3), (16, sl 6 0 c4 c4), (79, iv n), (80, iv i), (7, sl 7 0 M.length M.length)], K0 :: B1 :: B2 :: B3 :: B4 :: B5 :: B6 :: lsB 8 M :: M.map nB, []⟩) := by
  have s0 : ∀ (c t : Int), sweep 1 ⟨[(17, iv i), (20, iv c), (120, iv M.length), (121, iv t), (5, sl 1 0 n n), (6, iv kk), (8, sl 2 0 n n), (10, sl 3 0 c1 c1), (11, sl 4 0 c2 c2), (13, iv g), (15, sl 5 0 c3 c3), (16, sl 6 0 c4 c4), (79, iv n), (80, iv i), (7, sl 7 0 M.length M.length), (119, sl 7 0 M.length M.length)], K0 :: B1 :: B2 :: B3 :: B4 :: B5 :: B6 :: lsB 8 M :: (M.map nB ++ []), []⟩ = _ := fun c t  =>
    sw8 K0 hB1 hB2 hB3 hB4 hB5 hB6 hk _ [7] rfl (by simp) (by simp) (fun f h1 h2 h3 h4 h5 h6 h7 h8 => by simp [renT, renV_sl, renV_int, renV_ptr, dep, h1, h2, h3, h4, h5, h6, h7])
  have s1 : ∀ (c : Int), sweep 1 ⟨[(17, iv i), (20, iv c), (5, sl 1 0 n n), (6, iv kk), (8, sl 2 0 n n), (10, sl 3 0 c1 c1), (11, sl 4 0 c2 c2), (13, iv g), (15, sl 5 0 c3 c3), (16, sl 6 0 c4 c4), (79, iv n), (80, iv i), (7, sl 7 0 M.length M.length)], K0 :: B1 :: B2 :: B3 :: B4 :: B5 :: B6 :: lsB 8 M :: (M.map nB ++ []), []⟩ = _ := fun c  =>
    sw8 K0 hB1 hB2 hB3 hB4 hB5 hB6 hk _ [] rfl (by simp) (by simp) (fun f h1 h2 h3 h4 h5 h6 h7 h8 => by simp [renT, renV_sl, renV_int, renV_ptr, dep, h1, h2, h3, h4, h5, h6, h7])
  simp only [List.append_nil] at s0 s1
  intro q
  induction q with
  | zero =>
    intro t c ht hc
    obtain rfl : t = M.length := by omega
    rw [List.drop_length]
    simp only [List.filter_nil, List.length_nil, Nat.add_zero]
    simp only [lsB, nB] at s0 s1 ⊢
    generalize M.map (fun L => Blk.cells (nm L) 1 true true) = Q at *
    generalize slS 8 M = X at *
    rw [lpB_eq]
    simp (maxSteps := 1000000) (disch := first | omega | decide | assumption | simp [scal]) [o_convI cv_5_3, lenA_sl lk_22, lenA_sl lk_49, o_indexAddrS es_49, loadA_eq ia_24, lenA_sl lk_24, o_indexAddrS es_24, loadA_eq ia_3, o_indexAddrS es_22, loadA_eq ia_55, za_55, o_build za_55 pl_55, o_sliceS sl_24, ze_24, o_buildSlice es_24 ze_24 (by decide) ba_24_1, ap_24, builtin_append ni_24, want_some q8_16g2, want_some q8_16g6, want_some q8_16g10, want_some q8_157g3, want_some q8_157g8, want_some q8_157g14, -sweep_eq, s0, s1]
  | succ q ih =>
    intro t c ht hc
    have e0 : t < M.length := by omega
    have e1 : (t : Int) < M.length := by omega
    obtain ⟨O, hMt⟩ : ∃ O, M[t]? = some O := ⟨M[t], List.getElem?_eq_getElem e0⟩
    have hOn := hO O (List.mem_of_getElem? hMt)
    have p1 := slS_get M 8 t O hMt
    rw [hOn] at p1
    have g1 := map_at hMt
    have a38 := k38w O i kk (8 + t) (h := K0 :: B1 :: B2 :: B3 :: B4 :: B5 :: B6 :: lsB 8 M :: M.map nB) (by
      rw [show 8 + t = t + 1 + 1 + 1 + 1 + 1 + 1 + 1 + 1 by omega]
      simp only [List.getElem?_cons_succ]
      exact g1) (by omega) (by omega)
    rw [hOn] at a38
    have g4 : ∀ (z1 z2 z3 z4 z5 z6 z7 z8 : Blk), (z1 :: z2 :: z3 :: z4 :: z5 :: z6 :: z7 :: z8 :: M.map nB)[8 + t]? = some (nB O) := fun z1 z2 z3 z4 z5 z6 z7 z8 => by
      rw [show 8 + t = t + 1 + 1 + 1 + 1 + 1 + 1 + 1 + 1 by omega]; exact g1
    have e3 : (kk : Int) ≤ n := by omega
    have hdr : M.drop t = O :: M.drop (t + 1) := by
      rw [List.drop_eq_getElem_cons e0]
      congr 1
      rw [List.getElem?_eq_getElem e0] at hMt
      exact Option.some.inj hMt
    rw [hdr, List.filter_cons]
    by_cases hq : inB kk i O = true
    · rw [if_pos hq, List.length_cons, show c + (((M.drop (t + 1)).filter (inB kk i)).length + 1) = c + 1 + ((M.drop (t + 1)).filter (inB kk i)).length by omega]
      have this := ih (t + 1) (c + 1) (by omega) (by omega)
      unfold inB at hq
      rw [hq] at a38
      generalize c + 1 + ((M.drop (t + 1)).filter (inB kk i)).length = Z at *
      simp only [cast1] at this
      clear ih hdr
      simp only [lsB, nB] at s0 s1 a38 g4 this ⊢
      generalize M.map (fun L => Blk.cells (nm L) 1 true true) = Q at *
      generalize slS 8 M = X at *
      generalize 8 + t = ti at *
      rw [lpB_eq]
      simp (maxSteps := 1000000) (disch := first | omega | decide | assumption | simp [scal]) [o_convI cv_5_3, lenA_sl lk_22, lenA_sl lk_49, o_indexAddrS es_49, loadA_eq ia_24, lenA_sl lk_24, o_indexAddrS es_24, loadA_eq ia_3, o_indexAddrS es_22, loadA_eq ia_55, za_55, o_build za_55 pl_55, o_sliceS sl_24, ze_24, o_buildSlice es_24 ze_24 (by decide) ba_24_1, ap_24, builtin_append ni_24, want_some q8_16g2, want_some q8_16g6, want_some q8_16g10, want_some q8_157g3, want_some q8_157g8, want_some q8_157g14, -sweep_eq, e0, e1, e3, p1, g4, a38, s0, s1, this]
    · rw [if_neg hq]
      have this := ih (t + 1) c (by omega) (by omega)
      unfold inB at hq
      rw [Bool.not_eq_true] at hq
      rw [hq] at a38
      generalize c + ((M.drop (t + 1)).filter (inB kk i)).length = Z at *
      simp only [cast1] at this
      clear ih hdr
      simp only [lsB, nB] at s0 s1 a38 g4 this ⊢
      generalize M.map (fun L => Blk.cells (nm L) 1 true true) = Q at *
      generalize slS 8 M = X at *
      generalize 8 + t = ti at *
      rw [lpB_eq]
      simp (maxSteps := 1000000) (disch := first | omega | decide | assumption | simp [scal]) [o_convI cv_5_3, lenA_sl lk_22, lenA_sl lk_49, o_indexAddrS es_49, loadA_eq ia_24, lenA_sl lk_24, o_indexAddrS es_24, loadA_eq ia_3, o_indexAddrS es_22, loadA_eq ia_55, za_55, o_build za_55 pl_55, o_sliceS sl_24, ze_24, o_buildSlice es_24 ze_24 (by decide) ba_24_1, ap_24, builtin_append ni_24, want_some q8_16g2, want_some q8_16g6, want_some q8_16g10, want_some q8_157g3, want_some q8_157g8, want_some q8_157g14, -sweep_eq, e0, e1, e3, p1, g4, a38, s0, s1, this]
end
end Go.Proofs.Ytfccmddkblbeoaa.rk
namespace Go.Proofs.Ytfccmddkblbeoaa.rk
open Go.GE
set_option linter.unusedVariables false
set_option linter.unusedSimpArgs false
set_option linter.unusedSectionVars false
set_option maxRecDepth 100000
set_option maxHeartbeats 4000000
attribute [local simp] runOps_nil runOps_cons runOpsF_nil runOpsF_cons fstS_some fstF_some opStep_eq want_none oStep_true oStep_false fin_pure fin_read fin_alloc fin_write storeB wrN cellV addWr o_move o_assign o_pick o_alloc o_box o_load o_store o_nilCheck o_bin o_un o_extract o_callV o_callB o_callI callV_f callV_y callV_fc o_makeFunc partsA Instr.fill builtin_len builtin_max2 bin_add bin_sub bin_mul bin_quo bin_rem bin_lss bin_leq bin_gtr bin_geq bin_eql bin_neq un_neg un_not bin_shr bin_shl wrap_u64_id opd opds optAll putO nbeq nblt constOk isC ops sub cl cr co bodyOf thenS_normal thenS_ret thenS_exit thenS_goto afterN_normal afterN_ret afterN_exit afterN_goto condS_true condS_false blockS_normal blockS_ret blockS_exit blockS_goto headS normS normK_eq fixS_nil fixS_cons fix1 fixV emptyB keepO_nil keepO_cons roundC_normal roundC_exit roundC_ret roundC_goto sweep_eq sweepD rnm pickR pickW rootsB ptrT renT ptrFn renFn ptrB_flat ptrB_non renB_flat renB_non plainS_some drawS_some fpsOk disj unord range' dropTo enumT undef wrap_i64_id Value.cells mkCells ptrTo scal cellsAt rdN endS_ret resultsA Option.bind_some tupV finish reachN dep ptrL_eq ptrL renL_eq renL ptrV_bool ptrV_int ptrV_string ptrV_nilFunc ptrV_nilIface ptrV_nilPtr ptrV_ptr ptrV_nilSl ptrV_sl ptrV_iface ptrV_agg ptrV_tuple ptrV_func renV_bool renV_int renV_string renV_nilFunc renV_nilIface renV_nilPtr renV_ptr renV_nilSl renV_sl renV_iface renV_agg renV_tuple renV_func gotoS_goto gotoS_normal gotoS_exit gotoS_ret skip_seq sliceE bnd bndHi intOf optOpd keepT_nil keepT_cons keepC_t keepC_f lk_nil lk_cons lkC_t lkC_f has_nil has_cons hasC_t hasC_f rep_nil rep_cons repC_t repC_f put_eq putC_t putC_f mem_nil mem_cons memC_t memC_f idx_nil idx_cons idxC_t idxC_f reach_nil reachP_cons reachQ_t reachQ_f ptrB_dead renB_dead ins_eq
attribute [local simp] n8_1s n8_3s n8_5s n8_7s n8_9s n8_11s n8_13s n8_16s n8_19s n8_20s n8_18s n8_21s n8_17s n8_15s n8_23s n8_26s n8_30s n8_33s n8_34s n8_32s n8_38s n8_40s n8_43s n8_47s n8_50s n8_51s n8_49s n8_55s n8_57s n8_61s n8_64s n8_65s n8_63s n8_69s n8_71s n8_73s n8_74s n8_72s n8_70s n8_68s n8_67s n8_75s n8_66s n8_62s n8_60s n8_59s n8_59g n8_58s n8_56s n8_54s n8_53s n8_76s n8_52s n8_48s n8_46s n8_45s n8_45g n8_44s n8_42s n8_79s n8_82s n8_83s n8_81s n8_84s n8_80s n8_78s n8_87s n8_91s n8_94s n8_95s n8_93s n8_99s n8_101s n8_103s n8_104s n8_102s n8_100s n8_98s n8_97s n8_105s n8_96s n8_92s n8_90s n8_89s n8_89g n8_88s n8_86s n8_108s n8_110s n8_111s n8_109s n8_107s n8_113s n8_115s n8_116s n8_114s n8_112s n8_106s n8_85s n8_77s n8_41s n8_39s n8_37s n8_36s n8_117s n8_35s n8_31s n8_29s n8_28s n8_28g n8_27s n8_25s n8_119s n8_122s n8_126s n8_129s n8_130s n8_128s n8_134s n8_136s n8_139s n8_143s n8_146s n8_147s n8_145s n8_151s n8_152s n8_150s n8_149s n8_153s n8_148s n8_144s n8_142s n8_141s n8_141g n8_140s n8_138s n8_154s n8_137s n8_135s n8_133s n8_132s n8_155s n8_131s n8_127s n8_125s n8_124s n8_124g n8_123s n8_121s n8_157s n8_158s n8_156s n8_120s n8_118s n8_24s n8_22s n8_14s n8_12s n8_10s n8_8s n8_6s n8_4s n8_2s n8_0s Try.f8
section
variable (K0 : Blk) {B1 B2 B3 B4 B5 B6 : Blk} (hB1 : noIdB B1) (hB2 : noIdB B2) (hB3 : noIdB B3) (hB4 : noIdB B4) (hB5 : noIdB B5) (hB6 : noIdB B6) {M : List (List Nat)} (hk : M.length ≤ 5000)
include hB1 hB2 hB3 hB4 hk
theorem sw8x {R : List Blk} {X5 X6 : Blk} (hX5 : noIdB X5) (hX6 : noIdB X6) (a b : Nat) (ha : (K0 :: B1 :: B2 :: B3 :: B4 :: B5 :: B6 :: lsB 8 M :: (M.map nB ++ R))[a]? = some X5) (hb : (K0 :: B1 :: B2 :: B3 :: B4 :: B5 :: B6 :: lsB 8 M :: (M.map nB ++ R))[b]? = some X6) (hab : a ≠ b) (ha' : a = 5 ∨ 8 + M.length ≤ a) (hb' : b = 6 ∨ 8 + M.length ≤ b)
    (σ σ' : Tm) (hp : ptrT σ = [1, 2, 3, 4, a, b, 7]) (hσ : ∀ f : Nat → Option Nat, f 1 = some 1 → f 2 = some 2 → f 3 = some 3 → f 4 = some 4 → f a = some 5 → f b = some 6 → f 7 = some 7 → renT f σ = some σ') :
    sweep 1 ⟨σ, K0 :: B1 :: B2 :: B3 :: B4 :: B5 :: B6 :: lsB 8 M :: (M.map nB ++ R), []⟩ = some ⟨σ', K0 :: B1 :: B2 :: B3 :: B4 :: X5 :: X6 :: lsB 8 M :: M.map nB, []⟩ := by
  refine sweep_pre (base := 1) (H := K0 :: B1 :: B2 :: B3 :: B4 :: B5 :: B6 :: lsB 8 M :: (M.map nB ++ R)) (M := M) (N := 7) (p := 8) [1, 2, 3, 4, a, b] [B1, B2, B3, B4, X5, X6] [] ?_ ?_ ?_ ?_ rfl ?_ (by omega) (by omega) (by omega) (by omega) (by simp) (by simp) hp (by simp) ?_
  · simp only [List.map_cons, List.map_nil, ha, hb]
    rfl
  · intro blk hb
    simp only [List.mem_cons, List.not_mem_nil, or_false] at hb
    rcases hb with rfl | rfl | rfl | rfl | rfl | rfl <;> assumption
  · simp only [List.nodup_cons, List.mem_cons, List.not_mem_nil, or_false, not_or, List.nodup_nil, and_true, not_false_eq_true]
    omega
  · intro b hb
    simp only [List.mem_cons, List.not_mem_nil, or_false] at hb
    omega
  · intro j O hj
    rw [show 8 + j = j + 1 + 1 + 1 + 1 + 1 + 1 + 1 + 1 by omega]
    simp only [List.getElem?_cons_succ]
    exact map_left hj
  · intro f h1 h2 h3
    exact hσ f (h1 0 1 rfl) (h1 1 2 rfl) (h1 2 3 rfl) (h1 3 4 rfl) (h1 4 a rfl) (h1 5 b rfl) h2
include hB5 hB6
/-- the month and the ranks are left out -/
theorem sw8e (σ σ' : Tm) (hp : ptrT σ = [3, 4, 5, 6, 7]) (hσ : ∀ f : Nat → Option Nat, f 3 = some 1 → f 4 = some 2 → f 5 = some 3 → f 6 = some 4 → f 7 = some 5 → renT f σ = some σ') :
    sweep 1 ⟨σ, K0 :: B1 :: B2 :: B3 :: B4 :: B5 :: B6 :: lsB 8 M :: M.map nB, []⟩ = some ⟨σ', K0 :: B3 :: B4 :: B5 :: B6 :: lsB 6 M :: M.map nB, []⟩ := by
  refine sweep_pre (base := 1) (H := K0 :: B1 :: B2 :: B3 :: B4 :: B5 :: B6 :: lsB 8 M :: M.map nB) (M := M) (N := 7) (p := 8) [3, 4, 5, 6] [B3, B4, B5, B6] [] rfl ?_ (by decide) ?_ rfl ?_ (by omega) (by omega) (by omega) (by omega) (by simp) (by simp) hp (by simp) ?_
  · intro blk hb
    simp only [List.mem_cons, List.not_mem_nil, or_false] at hb
    rcases hb with rfl | rfl | rfl | rfl <;> assumption
  · intro b hb
    simp only [List.mem_cons, List.not_mem_nil, or_false] at hb
    omega
  · intro j O hj
    rw [show 8 + j = j + 1 + 1 + 1 + 1 + 1 + 1 + 1 + 1 by omega]
    simp only [List.getElem?_cons_succ]
    exact map_at hj
  · intro f h1 h2 h3
    exact hσ f (h1 0 3 rfl) (h1 1 4 rfl) (h1 2 5 rfl) (h1 3 6 rfl) h2
end
section
variable (K0 : Blk) {B1 B3 B4 : Blk} (hB1 : noIdB B1) (hB3 : noIdB B3) (hB4 : noIdB B4) {M : List (List Nat)} (hk : M.length ≤ 5000) (hN : 0 < M.length) {R : List (Int × Int)} {n : Nat} (hR : R.length = n) {rf : Nat → Int × Int} (hrf : ∀ i, i < n → spAt R i = rf i) (n5 : n ≤ 5) {kk : Nat} (hkk : kk ≤ n) (hO : ∀ O, O ∈ M → O.length = n)
  (F1 : ∀ i, i < n → ((mnM i M n : Nat) : Int) = (rf i).1 ∧ ((mxM i M 1 : Nat) : Int) = (rf i).2) (F2 : ∀ i, i < n → (0 < (M.filter (inB kk i)).length ↔ (rf i).1 ≤ kk)) (F3 : ∀ i, i < n → ((M.filter (inB kk i)).length = M.length ↔ (rf i).2 ≤ kk))
include hB1 hB3 hB4 hk hN hR hrf n5 hkk hO F1 F2 F3
theorem l8a (c1 c2 : Nat) (g : Int) : ∀ (q i : Nat), i + q = n →
    lpB Try.prog LL ⟨8, 188, 1, none⟩ n8_28 n8_29 ⟨[(5, sl 1 0 n n), (6, iv kk), (8, sl 2 0 n n), (10, sl 3 0 c1 c1), (11, sl 4 0 c2 c2), (13, iv g), (15, sl 5 0 (canF rf kk i).length (canF rf kk i).length), (16, sl 6 0 (sureF rf kk i).length (sureF rf kk i).length), (79, iv n), (80, iv i), (7, sl 7 0 M.length M.length)], K0 :: B1 :: spB R :: B3 :: B4 :: nB (canF rf kk i) :: nB (sureF rf kk i) :: lsB 8 M :: M.map nB, []⟩ =
      some (.exit 0, ⟨[(6, iv kk), (10, sl 1 0 c1 c1), (11, sl 2 0 c2 c2), (13, iv g), (15, sl 3 0 (canF rf kk n).length (canF rf kk n).length), (16, sl 4 0 (sureF rf kk n).length (sureF rf kk n).length), (7, sl 5 0 M.length M.length)], K0 :: B3 :: B4 :: nB (canF rf kk n) :: nB (sureF rf kk n) :: lsB 6 M :: M.map nB, []⟩) := by
  intro q
  induction q with
  | zero =>
    intro i hi
    obtain rfl : i = n := by omega
    have s0 := sw8e K0 hB1 (B2 := spB R) noIdB_flat hB3 hB4 (B5 := nB (canF rf kk i)) noIdB_flat (B6 := nB (sureF rf kk i)) noIdB_flat hk [(6, iv kk), (10, sl 3 0 c1 c1), (11, sl 4 0 c2 c2), (13, iv g), (15, sl 5 0 (canF rf kk i).length (canF rf kk i).length), (16, sl 6 0 (sureF rf kk i).length (sureF rf kk i).length), (7, sl 7 0 M.length M.length)]
      [(6, iv kk), (10, sl 1 0 c1 c1), (11, sl 2 0 c2 c2), (13, iv g), (15, sl 3 0 (canF rf kk i).length (canF rf kk i).length), (16, sl 4 0 (sureF rf kk i).length (sureF rf kk i).length), (7, sl 5 0 M.length M.length)] rfl (fun f h3 h4 h5 h6 h7 => by simp [renT, renV_sl, renV_int, dep, h3, h4, h5, h6, h7])
    generalize canF rf kk i = C at *
    generalize sureF rf kk i = D at *
    simp only [spB, lsB, nB] at s0 ⊢
    generalize M.map (fun L => Blk.cells (nm L) 1 true true) = Q at *
    generalize slS 8 M = X at *
    generalize slS 6 M = Y at *
    generalize R.flatMap spG = N at *
    rw [lpB_eq]
    simp (maxSteps := 1000000) (disch := first | omega | decide | assumption | simp [scal]) [o_convI cv_5_3, lenA_sl lk_22, lenA_sl lk_49, o_indexAddrS es_49, loadA_eq ia_24, lenA_sl lk_24, o_indexAddrS es_24, loadA_eq ia_3, o_indexAddrS es_22, loadA_eq ia_55, za_55, o_build za_55 pl_55, o_sliceS sl_24, ze_24, o_buildSlice es_24 ze_24 (by decide) ba_24_1, ap_24, builtin_append ni_24, want_some q8_16g2, want_some q8_16g6, want_some q8_16g10, want_some q8_157g3, want_some q8_157g8, want_some q8_157g14, -sweep_eq, s0]
  | succ q ih =>
    intro i hi
    have e0 : i < n := by omega
    have e1 : (i : Int) < n := by omega
    have this := ih (i + 1) (by omega)
    obtain ⟨f1, f2⟩ := F1 i e0
    have f3 := F2 i e0
    have f4 := F3 i e0
    obtain ⟨p1, p2⟩ := spAt_C R i (by omega)
    rw [hrf i e0, Nat.zero_add] at p1 p2
    have hc1 : canF rf kk (i + 1) = if decide ((rf i).1 ≤ kk) = true then canF rf kk i ++ [i] else canF rf kk i := filt_succ
    have hd1 : sureF rf kk (i + 1) = if decide ((rf i).2 ≤ kk) = true then sureF rf kk i ++ [i] else sureF rf kk i := filt_succ
    have lc : (canF rf kk i).length ≤ i := filt_len
    have ld : (sureF rf kk i).length ≤ i := filt_len
    rw [hc1, hd1] at this
    clear hc1 hd1 ih F1 F2 F3
    generalize canF rf kk n = C2 at *
    generalize sureF rf kk n = D2 at *
    generalize canF rf kk i = C at *
    generalize sureF rf kk i = D at *
    have lb := l8b K0 hB1 (B2 := spB R) noIdB_flat hB3 hB4 (B5 := nB C) noIdB_flat (B6 := nB D) noIdB_flat hk n kk c1 c2 C.length D.length i g hO n5 M.length 0 n 1 (by omega)
    have ld' := l8d K0 hB1 (B2 := spB R) noIdB_flat hB3 hB4 (B5 := nB C) noIdB_flat (B6 := nB D) noIdB_flat hk n kk c1 c2 C.length D.length i g hO n5 hkk M.length 0 0 (by omega) (by omega)
    rw [List.drop_zero, f1, f2] at lb
    rw [List.drop_zero, Nat.zero_add] at ld'
    have hcc : (M.filter (inB kk i)).length ≤ M.length := List.length_filter_le _ _
    generalize (M.filter (inB kk i)).length = cc at *
    generalize rf i = z at *
    obtain ⟨lo, hi'⟩ := z
    simp only [] at p1 p2 f3 f4 lb this
    have s0 : sweep 1 ⟨[(17, iv i), (18, iv n), (19, iv 1), (20, iv 0), (86, iv M.length), (87, iv 0), (5, sl 1 0 n n), (6, iv kk), (8, sl 2 0 n n), (10, sl 3 0 c1 c1), (11, sl 4 0 c2 c2), (13, iv g), (15, sl 5 0 C.length C.length), (16, sl 6 0 D.length D.length), (79, iv n), (80, iv i), (7, sl 7 0 M.length M.length), (85, sl 7 0 M.length M.length)], K0 :: B1 :: spB R :: B3 :: B4 :: nB C :: nB D :: lsB 8 M :: (M.map nB ++ []), []⟩ = _ := 
      sw8 K0 hB1 (B2 := spB R) noIdB_flat hB3 hB4 (B5 := nB C) noIdB_flat (B6 := nB D) noIdB_flat hk _ [7] rfl (by simp) (by simp) (fun f h1 h2 h3 h4 h5 h6 h7 h8 => by simp [renT, renV_sl, renV_int, renV_ptr, dep, h1, h2, h3, h4, h5, h6, h7])
    have s2 : sweep 1 ⟨[(17, iv i), (20, iv 0), (120, iv M.length), (121, iv 0), (5, sl 1 0 n n), (6, iv kk), (8, sl 2 0 n n), (10, sl 3 0 c1 c1), (11, sl 4 0 c2 c2), (13, iv g), (15, sl 5 0 C.length C.length), (16, sl 6 0 D.length D.length), (79, iv n), (80, iv i), (7, sl 7 0 M.length M.length), (119, sl 7 0 M.length M.length)], K0 :: B1 :: spB R :: B3 :: B4 :: nB C :: nB D :: lsB 8 M :: (M.map nB ++ []), []⟩ = _ := 
      sw8 K0 hB1 (B2 := spB R) noIdB_flat hB3 hB4 (B5 := nB C) noIdB_flat (B6 := nB D) noIdB_flat hk _ [7] rfl (by simp) (by simp) (fun f h1 h2 h3 h4 h5 h6 h7 h8 => by simp [renT, renV_sl, renV_int, renV_ptr, dep, h1, h2, h3, h4, h5, h6, h7])
    have s3 : ∀ (j : Int), sweep 1 ⟨[(5, sl 1 0 n n), (6, iv kk), (8, sl 2 0 n n), (10, sl 3 0 c1 c1), (11, sl 4 0 c2 c2), (13, iv g), (15, sl 5 0 C.length C.length), (16, sl 6 0 D.length D.length), (79, iv n), (80, iv j), (7, sl 7 0 M.length M.length)], K0 :: B1 :: spB R :: B3 :: B4 :: nB C :: nB D :: lsB 8 M :: (M.map nB ++ []), []⟩ = _ := fun j  =>
      sw8 K0 hB1 (B2 := spB R) noIdB_flat hB3 hB4 (B5 := nB C) noIdB_flat (B6 := nB D) noIdB_flat hk _ [] rfl (by simp) (by simp) (fun f h1 h2 h3 h4 h5 h6 h7 h8 => by simp [renT, renV_sl, renV_int, renV_ptr, dep, h1, h2, h3, h4, h5, h6, h7])
    have s4 : ∀ (j : Int) (Z : Blk) , sweep 1 ⟨[(5, sl 1 0 n n), (6, iv kk), (8, sl 2 0 n n), (10, sl 3 0 c1 c1), (11, sl 4 0 c2 c2), (13, iv g), (15, sl (M.length + 9) 0 (C.length + 1) (C.length + 1)), (16, sl 6 0 D.length D.length), (79, iv n), (80, iv j), (7, sl 7 0 M.length M.length)], K0 :: B1 :: spB R :: B3 :: B4 :: .dead :: nB D :: lsB 8 M :: (M.map nB ++ [Z, nB (C ++ [i])]), []⟩ = some ⟨[(5, sl 1 0 n n), (6, iv kk), (8, sl 2 0 n n), (10, sl 3 0 c1 c1), (11, sl 4 0 c2 c2), (13, iv g), (15, sl 5 0 (C.length + 1) (C.length + 1)), (16, sl 6 0 D.length D.length), (79, iv n), (80, iv j), (7, sl 7 0 M.length M.length)], K0 :: B1 :: spB R :: B3 :: B4 :: nB (C ++ [i]) :: nB D :: lsB 8 M :: M.map nB, []⟩ := fun j Z =>
      sw8x K0 hB1 (B2 := spB R) noIdB_flat hB3 hB4 (B5 := .dead) (B6 := nB D) hk (X5 := nB (C ++ [i])) (X6 := nB D) noIdB_flat noIdB_flat (M.length + 9) 6 (by
        simp only [List.getElem?_cons_succ]
        rw [List.getElem?_append_right (by simp)]
        simp) rfl (by omega) (by omega) (by omega) _ _ rfl (fun f h1 h2 h3 h4 h5 h6 h7 => by simp [renT, renV_sl, renV_int, renV_ptr, dep, h1, h2, h3, h4, h5, h6, h7])
    have s5 : ∀ (j : Int) (Z Z2 : Blk), sweep 1 ⟨[(5, sl 1 0 n n), (6, iv kk), (8, sl 2 0 n n), (10, sl 3 0 c1 c1), (11, sl 4 0 c2 c2), (13, iv g), (15, sl (M.length + 9) 0 (C.length + 1) (C.length + 1)), (16, sl (M.length + 11) 0 (D.length + 1) (D.length + 1)), (79, iv n), (80, iv j), (7, sl 7 0 M.length M.length)], K0 :: B1 :: spB R :: B3 :: B4 :: .dead :: .dead :: lsB 8 M :: (M.map nB ++ [Z, nB (C ++ [i]), Z2, nB (D ++ [i])]), []⟩ = some ⟨[(5, sl 1 0 n n), (6, iv kk), (8, sl 2 0 n n), (10, sl 3 0 c1 c1), (11, sl 4 0 c2 c2), (13, iv g), (15, sl 5 0 (C.length + 1) (C.length + 1)), (16, sl 6 0 (D.length + 1) (D.length + 1)), (79, iv n), (80, iv j), (7, sl 7 0 M.length M.length)], K0 :: B1 :: spB R :: B3 :: B4 :: nB (C ++ [i]) :: nB (D ++ [i]) :: lsB 8 M :: M.map nB, []⟩ := fun j Z Z2 =>
      sw8x K0 hB1 (B2 := spB R) noIdB_flat hB3 hB4 (B5 := .dead) (B6 := .dead) hk (X5 := nB (C ++ [i])) (X6 := nB (D ++ [i])) noIdB_flat noIdB_flat (M.length + 9) (M.length + 11) (by
        simp only [List.getElem?_cons_succ]
        rw [List.getElem?_append_right (by simp)]
        simp) (by
        simp only [List.getElem?_cons_succ]
        rw [List.getElem?_append_right (by simp)]
        simp) (by omega) (by omega) (by omega) _ _ rfl (fun f h1 h2 h3 h4 h5 h6 h7 => by simp [renT, renV_sl, renV_int, renV_ptr, dep, h1, h2, h3, h4, h5, h6, h7])
    simp only [List.append_nil] at s0 s2 s3
    have hQ : (M.map nB).length = M.length := by simp
    have gq : ∀ z R', (M.map nB ++ z :: R')[M.length]? = some z := fun z R' => by rw [List.getElem?_append_right (by simp)]; simp
    have gq1 : ∀ z z1 R', (M.map nB ++ z :: z1 :: R')[M.length + 1]? = some z1 := fun z z1 R' => by rw [List.getElem?_append_right (by simp)]; simp
    have gq2 : ∀ z z1 z2 R', (M.map nB ++ z :: z1 :: z2 :: R')[M.length + 2]? = some z2 := fun z z1 z2 R' => by rw [List.getElem?_append_right (by simp)]; simp
    have nn : ∀ a b : Nat, M.length + a + b = M.length + (a + b) := fun a b => Nat.add_assoc _ a b
    have ap1 := fun hp b c rd => app_list (h := hp) (b := b) (c := c) (k := 1) (by' := 8) (l := C.length) (cs := nm C) (new := [iv i]) (rd := rd) (by rw [nm_len]; simp) (by omega) (by omega) rfl
    have ap2 := fun hp b c rd => app_list (h := hp) (b := b) (c := c) (k := 1) (by' := 8) (l := D.length) (cs := nm D) (new := [iv i]) (rd := rd) (by rw [nm_len]; simp) (by omega) (by omega) rfl
    have e9 : (i : Int) * 2 = ((i * 2 : Nat) : Int) := by omega
    have r1 : spAt R i = spAt R i := rfl
    have hR2 : R.length = n := hR
    have hN' : (0 : Int) < M.length := by omega
    clear hrf hO r1
    simp only [cast1] at this
    by_cases h1 : lo ≤ kk
    · have g1 : 0 < cc := f3.2 h1
      have g1' : (0 : Int) < cc := by omega
      by_cases h2 : hi' ≤ kk
      · have g2 : cc = M.length := f4.2 h2
        have g2' : (cc : Int) = M.length := by omega
        simp only [h1, h2, decide_true, if_true, List.length_append, List.length_singleton, nm_app, nm_one] at this
        clear f1 f2 f3 f4
        simp only [spB, lsB, nB, nm_app, nm_one, Int.natCast_zero, Int.natCast_one] at s0 s2 s3 s4 s5 lb ld' hQ gq gq1 gq2 this ⊢
        generalize M.map (fun L => Blk.cells (nm L) 1 true true) = Q at *
        generalize slS 8 M = X at *
        generalize slS 6 M = Y at *
        generalize R.flatMap spG = N at *
        generalize M.length = k' at *
        rw [lpB_eq]
        simp (maxSteps := 1000000) (disch := first | omega | decide | assumption | simp [scal]) [o_convI cv_5_3, lenA_sl lk_22, lenA_sl lk_49, o_indexAddrS es_49, loadA_eq ia_24, lenA_sl lk_24, o_indexAddrS es_24, loadA_eq ia_3, o_indexAddrS es_22, loadA_eq ia_55, za_55, o_build za_55 pl_55, o_sliceS sl_24, ze_24, o_buildSlice es_24 ze_24 (by decide) ba_24_1, ap_24, builtin_append ni_24, want_some q8_16g2, want_some q8_16g6, want_some q8_16g10, want_some q8_157g3, want_some q8_157g8, want_some q8_157g14, -sweep_eq, e0, e1, hN, hN', p1, p2, lb, ld', g1, g1', g2, g2', neq55, hQ, gq, gq1, gq2, nn, append_some ap_24, srcCells, ap1, ap2, s0, s2, s5, this]
      · have g2 : ¬ cc = M.length := fun h => h2 (f4.1 h)
        have g2' : ¬ (cc : Int) = M.length := by omega
        simp only [h1, h2, decide_true, decide_false, Bool.false_eq_true, if_true, if_false, List.length_append, List.length_singleton, nm_app, nm_one] at this
        clear f1 f2 f3 f4
        simp only [spB, lsB, nB, nm_app, nm_one, Int.natCast_zero, Int.natCast_one] at s0 s2 s3 s4 s5 lb ld' hQ gq gq1 gq2 this ⊢
        generalize M.map (fun L => Blk.cells (nm L) 1 true true) = Q at *
        generalize slS 8 M = X at *
        generalize slS 6 M = Y at *
        generalize R.flatMap spG = N at *
        generalize M.length = k' at *
        rw [lpB_eq]
        simp (maxSteps := 1000000) (disch := first | omega | decide | assumption | simp [scal]) [o_convI cv_5_3, lenA_sl lk_22, lenA_sl lk_49, o_indexAddrS es_49, loadA_eq ia_24, lenA_sl lk_24, o_indexAddrS es_24, loadA_eq ia_3, o_indexAddrS es_22, loadA_eq ia_55, za_55, o_build za_55 pl_55, o_sliceS sl_24, ze_24, o_buildSlice es_24 ze_24 (by decide) ba_24_1, ap_24, builtin_append ni_24, want_some q8_16g2, want_some q8_16g6, want_some q8_16g10, want_some q8_157g3, want_some q8_157g8, want_some q8_157g14, -sweep_eq, e0, e1, hN, hN', p1, p2, lb, ld', g1, g1', g2, g2', neq55, hQ, gq, gq1, gq2, nn, append_some ap_24, srcCells, ap1, ap2, s0, s2, s4, this]
    · have g1 : ¬ 0 < cc := fun h => h1 (f3.1 h)
      have g1' : ¬ (0 : Int) < cc := by omega
      have g2 : ¬ cc = M.length := by omega
      have g2' : ¬ (cc : Int) = M.length := by omega
      have h2 : ¬ hi' ≤ kk := fun h => g2 (f4.2 h)
      simp only [h1, h2, decide_false, Bool.false_eq_true, if_false] at this
      clear f1 f2 f3 f4
      simp only [spB, lsB, nB, Int.natCast_zero, Int.natCast_one] at s0 s2 s3 s4 s5 lb ld' hQ gq gq1 gq2 this ⊢
      generalize M.map (fun L => Blk.cells (nm L) 1 true true) = Q at *
      generalize slS 8 M = X at *
      generalize slS 6 M = Y at *
      generalize R.flatMap spG = N at *
      generalize M.length = k' at *
      rw [lpB_eq]
      simp (maxSteps := 1000000) (disch := first | omega | decide | assumption | simp [scal]) [o_convI cv_5_3, lenA_sl lk_22, lenA_sl lk_49, o_indexAddrS es_49, loadA_eq ia_24, lenA_sl lk_24, o_indexAddrS es_24, loadA_eq ia_3, o_indexAddrS es_22, loadA_eq ia_55, za_55, o_build za_55 pl_55, o_sliceS sl_24, ze_24, o_buildSlice es_24 ze_24 (by decide) ba_24_1, ap_24, builtin_append ni_24, want_some q8_16g2, want_some q8_16g6, want_some q8_16g10, want_some q8_157g3, want_some q8_157g8, want_some q8_157g14, -sweep_eq, e0, e1, hN, hN', p1, p2, lb, ld', g1, g1', g2, g2', neq55, hQ, gq, gq1, gq2, nn, s0, s2, s3, this]
end
end Go.Proofs.Ytfccmddkblbeoaa.rk
namespace Go.Proofs.Ytfccmddkblbeoaa.rk
open Go.GE
set_option linter.unusedVariables false
set_option linter.unusedSimpArgs false
set_option linter.unusedSectionVars false
set_option maxRecDepth 100000
set_option maxHeartbeats 4000000
attribute [local simp] runOps_nil runOps_cons runOpsF_nil runOpsF_cons fstS_some fstF_some opStep_eq want_none oStep_true oStep_false fin_pure fin_read fin_alloc fin_write storeB wrN cellV addWr o_move o_assign o_pick o_alloc o_box o_load o_store o_nilCheck o_bin o_un o_extract o_callV o_callB o_callI callV_f callV_y callV_fc o_makeFunc partsA Instr.fill builtin_len builtin_max2 bin_add bin_sub bin_mul bin_quo bin_rem bin_lss bin_leq bin_gtr bin_geq bin_eql bin_neq un_neg un_not bin_shr bin_shl wrap_u64_id opd opds optAll putO nbeq nblt constOk isC ops sub cl cr co bodyOf thenS_normal thenS_ret thenS_exit thenS_goto afterN_normal afterN_ret afterN_exit afterN_goto condS_true condS_false blockS_normal blockS_ret blockS_exit blockS_goto headS normS normK_eq fixS_nil fixS_cons fix1 fixV emptyB keepO_nil keepO_cons roundC_normal roundC_exit roundC_ret roundC_goto sweep_eq sweepD rnm pickR pickW rootsB ptrT renT ptrFn renFn ptrB_flat ptrB_non renB_flat renB_non plainS_some drawS_some fpsOk disj unord range' dropTo enumT undef wrap_i64_id Value.cells mkCells ptrTo scal cellsAt rdN endS_ret resultsA Option.bind_some tupV finish reachN dep ptrL_eq ptrL renL_eq renL ptrV_bool ptrV_int ptrV_string ptrV_nilFunc ptrV_nilIface ptrV_nilPtr ptrV_ptr ptrV_nilSl ptrV_sl ptrV_iface ptrV_agg ptrV_tuple ptrV_func renV_bool renV_int renV_string renV_nilFunc renV_nilIface renV_nilPtr renV_ptr renV_nilSl renV_sl renV_iface renV_agg renV_tuple renV_func gotoS_goto gotoS_normal gotoS_exit gotoS_ret skip_seq sliceE bnd bndHi intOf optOpd keepT_nil keepT_cons keepC_t keepC_f lk_nil lk_cons lkC_t lkC_f has_nil has_cons hasC_t hasC_f rep_nil rep_cons repC_t repC_f put_eq putC_t putC_f mem_nil mem_cons memC_t memC_f idx_nil idx_cons idxC_t idxC_f reach_nil reachP_cons reachQ_t reachQ_f ptrB_dead renB_dead ins_eq
attribute [local simp] n8_1s n8_3s n8_5s n8_7s n8_9s n8_11s n8_13s n8_16s n8_19s n8_20s n8_18s n8_21s n8_17s n8_15s n8_23s n8_26s n8_30s n8_33s n8_34s n8_32s n8_38s n8_40s n8_43s n8_47s n8_50s n8_51s n8_49s n8_55s n8_57s n8_61s n8_64s n8_65s n8_63s n8_69s n8_71s n8_73s n8_74s n8_72s n8_70s n8_68s n8_67s n8_75s n8_66s n8_62s n8_60s n8_59s n8_59g n8_58s n8_56s n8_54s n8_53s n8_76s n8_52s n8_48s n8_46s n8_45s n8_45g n8_44s n8_42s n8_79s n8_82s n8_83s n8_81s n8_84s n8_80s n8_78s n8_87s n8_91s n8_94s n8_95s n8_93s n8_99s n8_101s n8_103s n8_104s n8_102s n8_100s n8_98s n8_97s n8_105s n8_96s n8_92s n8_90s n8_89s n8_89g n8_88s n8_86s n8_108s n8_110s n8_111s n8_109s n8_107s n8_113s n8_115s n8_116s n8_114s n8_112s n8_106s n8_85s n8_77s n8_41s n8_39s n8_37s n8_36s n8_117s n8_35s n8_31s n8_29s n8_28s n8_28g n8_27s n8_25s n8_119s n8_122s n8_126s n8_129s n8_130s n8_128s n8_134s n8_136s n8_139s n8_143s n8_146s n8_147s n8_145s n8_151s n8_152s n8_150s n8_149s n8_153s n8_148s n8_144s n8_142s n8_141s n8_141g n8_140s n8_138s n8_154s n8_137s n8_135s n8_133s n8_132s n8_155s n8_131s n8_127s n8_125s n8_124s n8_124g n8_123s n8_121s n8_157s n8_158s n8_156s n8_120s n8_118s n8_24s n8_22s n8_14s n8_12s n8_10s n8_8s n8_6s n8_4s n8_2s n8_0s Try.f8
def kE (ks : List Nat) : List (Value × Value) := ks.map fun (x : Nat) => (iv (x : Int), .bool true)
def kmB (ks : List Nat) : Blk := .map (kE ks)
def kAdd (ks : List Nat) (x : Nat) : List Nat := if x ∈ ks then ks else ks ++ [x]
theorem findA_kE {x : Nat} : ∀ (ks : List Nat) (j : Nat), (∃ i, findA (iv x) (kE ks) j = some (some (j + i, .bool true)) ∧ ks[i]? = some x) ∨ (findA (iv x) (kE ks) j = some none ∧ x ∉ ks) := by
  intro ks
  induction ks with
  | nil => intro j; exact .inr ⟨rfl, by simp⟩
  | cons y ks ih =>
    intro j
    have e : findA (iv x) (kE (y :: ks)) j = if x = y then some (some (j, .bool true)) else findA (iv x) (kE ks) (j + 1) := by
      simp only [kE, List.map_cons, findA, sameK]
      by_cases h : x = y
      · subst h; simp
      · have : ((x : Int) == (y : Int)) = false := by simp; omega
        simp [h, this]
    by_cases h : x = y
    · subst h
      refine .inl ⟨0, ?_, rfl⟩
      rw [e, if_pos rfl]; rfl
    · rcases ih (j + 1) with ⟨i, h1, h2⟩ | ⟨h1, h2⟩
      · refine .inl ⟨i + 1, ?_, h2⟩
        rw [e, if_neg h, h1, show j + 1 + i = j + (i + 1) by omega]
      · exact .inr ⟨by rw [e, if_neg h, h1], by simp [h, h2]⟩
theorem upd58 {h : List Blk} {b x : Nat} {ks : List Nat} (hb : h[b]? = some (kmB ks)) : updX Try.prog 58 h (some (.map (some b))) (some (iv x)) (some (.bool true)) = some ⟨undef, h.set b (kmB (kAdd ks x)), [b], [b]⟩ := by
  have e1 : Try.prog.underlying 58 = some (.map 3 4) := by kernel_rfl
  have e2 : Try.prog.underlying 3 = some (.int .i64) := by kernel_rfl
  simp only [updX, updA, e1, e2, mapAt, hb, kmB, keyKind]
  rcases findA_kE (x := x) ks 0 with ⟨i, h1, h2⟩ | ⟨h1, h2⟩
  · have hm : x ∈ ks := List.mem_of_getElem? h2
    have hs : (kE ks).set i (iv x, .bool true) = kE ks := by
      apply List.ext_getElem?
      intro j
      rw [List.getElem?_set]
      by_cases hj : i = j
      · subst hj
        have hl := (List.getElem?_eq_some_iff.1 h2).1
        rw [if_pos rfl, if_pos (by simp [kE, hl])]
        simp [kE, h2]
      · rw [if_neg hj]
    simp only [h1, Nat.zero_add, kAdd, hm, if_true, hs]
    rfl
  · simp only [h1, kAdd, h2, if_false]
    simp only [kE, List.map_append, List.map_cons, List.map_nil]
    rfl
theorem renP_kE {f : Nat → Option Nat} : ∀ {ks : List Nat}, renP f (kE ks) = some (kE ks) := by
  intro ks
  induction ks with
  | nil => rfl
  | cons q ks ih =>
    have : kE (q :: ks) = (iv q, .bool true) :: kE ks := rfl
    rw [this]
    simp only [renP, ih]
    rfl
theorem km_no {ks : List Nat} : noIdB (kmB ks) := by
  refine ⟨fun f => ?_, ?_⟩
  · simp only [kmB, renB, renP_kE, Option.map_some]
  · simp only [kmB, ptrB, List.flatMap_eq_nil_iff]
    intro p hp
    simp only [kE, List.mem_map] at hp
    obtain ⟨q, _, rfl⟩ := hp
    rfl
theorem len58 {h : List Blk} {b : Nat} {ks : List Nat} (hb : h[b]? = some (kmB ks)) : lenA Try.prog h 58 (.map (some b)) = some (iv ks.length, [b]) := by
  have e1 : Try.prog.underlying 58 = some (.map 3 4) := by kernel_rfl
  simp only [lenA, e1, mapAt, hb, kmB, Option.map_some, kE, List.length_map]
  rfl
def kL (kk : Nat) : List (List Nat) → List Nat → List Nat
  | [], ks => ks
  | O :: M, ks => kL kk M (kAdd ks (mkS (O.take kk)))
section
variable (K0 : Blk) {B1 B2 B3 B4 : Blk} (hB1 : noIdB B1) (hB2 : noIdB B2) (hB3 : noIdB B3) (hB4 : noIdB B4) {M : List (List Nat)} (hk : M.length ≤ 5000) {ks : List Nat}
include hB1 hB2 hB3 hB4 hk
theorem sw7 {R : List Blk} (σ : Tm) (tl : List Nat) (hp : ptrT σ = 1 :: 2 :: 3 :: 4 :: 5 :: 6 :: tl) (h7 : tl.length ≤ 100) (htl : ∀ b, b ∈ tl → b = 6 ∨ (7 ≤ b ∧ b < 7 + M.length)) (hσ : ∀ f : Nat → Option Nat, f 1 = some 1 → f 2 = some 2 → f 3 = some 3 → f 4 = some 4 → f 5 = some 5 → f 6 = some 6 → (∀ j, j < M.length → f (7 + j) = some (7 + j)) → renT f σ = some σ) :
    sweep 1 ⟨σ, K0 :: B1 :: B2 :: B3 :: B4 :: kmB ks :: lsB 7 M :: (M.map nB ++ R), []⟩ = some ⟨σ, K0 :: B1 :: B2 :: B3 :: B4 :: kmB ks :: lsB 7 M :: M.map nB, []⟩ := by
  refine sweep_pre (base := 1) (H := K0 :: B1 :: B2 :: B3 :: B4 :: kmB ks :: lsB 7 M :: (M.map nB ++ R)) (M := M) (N := 6) (p := 7) [1, 2, 3, 4, 5] [B1, B2, B3, B4, kmB ks] tl rfl ?_ (by decide) ?_ rfl ?_ (by omega) (by omega) (by omega) (by omega) (by decide) h7 hp htl ?_
  · intro blk hb
    simp only [List.mem_cons, List.not_mem_nil, or_false] at hb
    rcases hb with rfl | rfl | rfl | rfl | rfl <;> first | assumption | exact km_no
  · intro b hb
    simp only [List.mem_cons, List.not_mem_nil, or_false] at hb
    omega
  · intro j O hj
    rw [show 7 + j = j + 1 + 1 + 1 + 1 + 1 + 1 + 1 by omega]
    simp only [List.getElem?_cons_succ]
    exact map_left hj
  · intro f h1 h2 h3
    exact hσ f (h1 0 1 rfl) (h1 1 2 rfl) (h1 2 3 rfl) (h1 3 4 rfl) (h1 4 5 rfl) h2 h3
/-- the new map comes behind the four lists -/
theorem sw7n (σ σ' : Tm) (hp : ptrT σ = [1, 2, 3, 4, M.length + 6, 5]) (hσ : ∀ f : Nat → Option Nat, f 1 = some 1 → f 2 = some 2 → f 3 = some 3 → f 4 = some 4 → f (M.length + 6) = some 5 → f 5 = some 6 → renT f σ = some σ') :
    sweep 1 ⟨σ, K0 :: B1 :: B2 :: B3 :: B4 :: lsB 6 M :: (M.map nB ++ [kmB ks]), []⟩ = some ⟨σ', K0 :: B1 :: B2 :: B3 :: B4 :: kmB ks :: lsB 7 M :: M.map nB, []⟩ := by
  refine sweep_pre (base := 1) (H := K0 :: B1 :: B2 :: B3 :: B4 :: lsB 6 M :: (M.map nB ++ [kmB ks])) (M := M) (N := 5) (p := 6) [1, 2, 3, 4, M.length + 6] [B1, B2, B3, B4, kmB ks] [] ?_ ?_ (by simp) ?_ rfl ?_ (by omega) (by omega) (by omega) (by omega) (by simp) (by simp) hp (by simp) ?_
  · simp only [List.map_cons, List.map_nil, List.getElem?_cons_succ]
    rw [List.getElem?_append_right (by simp)]
    simp
  · intro blk hb
    simp only [List.mem_cons, List.not_mem_nil, or_false] at hb
    rcases hb with rfl | rfl | rfl | rfl | rfl <;> first | assumption | exact km_no
  · intro b hb
    simp only [List.mem_cons, List.not_mem_nil, or_false] at hb
    omega
  · intro j O hj
    rw [show 6 + j = j + 1 + 1 + 1 + 1 + 1 + 1 by omega]
    simp only [List.getElem?_cons_succ]
    exact map_left hj
  · intro f h1 h2 h3
    exact hσ f (h1 0 1 rfl) (h1 1 2 rfl) (h1 2 3 rfl) (h1 3 4 rfl) (h1 4 _ rfl) h2
omit hk in
/-- the lists are left out -/
theorem sw7e {R : List Blk} (σ : Tm) (hp : ptrT σ = [1, 2, 3, 4, 5]) (hσ : ∀ f : Nat → Option Nat, f 1 = some 1 → f 2 = some 2 → f 3 = some 3 → f 4 = some 4 → f 5 = some 5 → renT f σ = some σ) :
    sweep 1 ⟨σ, K0 :: B1 :: B2 :: B3 :: B4 :: kmB ks :: R, []⟩ = some ⟨σ, [K0, B1, B2, B3, B4, kmB ks], []⟩ := by
  have hr : reach (K0 :: B1 :: B2 :: B3 :: B4 :: kmB ks :: R) 1 reachN (ptrT σ) [] = [1, 2, 3, 4, 5] := by
    rw [hp, show reachN = 99995 + 1 + 1 + 1 + 1 + 1 from rfl, reach_new (by omega) (by simp) rfl, hB1.2, List.nil_append, reach_new (by omega) (by simp) rfl, hB2.2, List.nil_append, reach_new (by omega) (by simp) rfl, hB3.2, List.nil_append, reach_new (by omega) (by simp) rfl, hB4.2, List.nil_append, reach_new (by omega) (by simp) rfl, km_no.2, List.nil_append, reach_nil]; rfl
  have hb : optAll (pickR 1 [1, 2, 3, 4, 5] (K0 :: B1 :: B2 :: B3 :: B4 :: kmB ks :: R)) [1, 2, 3, 4, 5] = some [B1, B2, B3, B4, kmB ks] := by
    simp only [optAll, pickR, List.getElem?_cons_succ, List.getElem?_cons_zero, hB1.1, hB2.1, hB3.1, hB4.1, km_no.1]
  rw [sweep_to hr (hσ _ rfl rfl rfl rfl rfl) hb]
  rfl
theorem l8g (n kk c1 c2 c3 c4 t : Nat) (g : Int) {O : List Nat} (hMt : M[t]? = some O) (hO : O.length = n) (hOn : ∀ x, x ∈ O → x < n) (n5 : n ≤ 5) (hkk : kk ≤ n) : ∀ (q j : Nat), j + q = kk →
    lpB Try.prog LL ⟨8, 188, 1, none⟩ n8_141 n8_142 ⟨[(30, iv (mkS (O.take j))), (158, iv kk), (159, iv j), (6, iv kk), (10, sl 1 0 c1 c1), (11, sl 2 0 c2 c2), (13, iv g), (15, sl 3 0 c3 c3), (16, sl 4 0 c4 c4), (27, .map (some 5)), (150, iv M.length), (151, iv t), (149, sl 6 0 M.length M.length), (157, sl (7 + t) 0 kk n)], K0 :: B1 :: B2 :: B3 :: B4 :: kmB ks :: lsB 7 M :: M.map nB, []⟩ =
      some (.exit 10, ⟨[(30, iv (mkS (O.take kk))), (6, iv kk), (10, sl 1 0 c1 c1), (11, sl 2 0 c2 c2), (13, iv g), (15, sl 3 0 c3 c3), (16, sl 4 0 c4 c4), (27, .map (some 5)), (150, iv M.length), (151, iv t), (149, sl 6 0 M.length M.length)], K0 :: B1 :: B2 :: B3 :: B4 :: kmB ks :: lsB 7 M :: M.map nB, []⟩) := by
  have ht := (List.getElem?_eq_some_iff.1 hMt).1
  have s1 : ∀ (m j : Int), sweep 1 ⟨[(30, iv m), (158, iv kk), (159, iv j), (6, iv kk), (10, sl 1 0 c1 c1), (11, sl 2 0 c2 c2), (13, iv g), (15, sl 3 0 c3 c3), (16, sl 4 0 c4 c4), (27, .map (some 5)), (150, iv M.length), (151, iv t), (149, sl 6 0 M.length M.length), (157, sl (7 + t) 0 kk n)], K0 :: B1 :: B2 :: B3 :: B4 :: kmB ks :: lsB 7 M :: (M.map nB ++ []), []⟩ = _ := fun m j =>
    sw7 K0 hB1 hB2 hB3 hB4 hk _ [7 + t] rfl (by simp) (by intro z hz; simp at hz; omega) (fun f h1 h2 h3 h4 h5 h6 h7 => by have := h7 t ht; simp [renT, renV_sl, renV_int, renV_ptr, renV_map, dep, h1, h2, h3, h4, h5, h6, this])
  have s2 : ∀ (m : Int), sweep 1 ⟨[(30, iv m), (6, iv kk), (10, sl 1 0 c1 c1), (11, sl 2 0 c2 c2), (13, iv g), (15, sl 3 0 c3 c3), (16, sl 4 0 c4 c4), (27, .map (some 5)), (150, iv M.length), (151, iv t), (149, sl 6 0 M.length M.length)], K0 :: B1 :: B2 :: B3 :: B4 :: kmB ks :: lsB 7 M :: (M.map nB ++ []), []⟩ = _ := fun m =>
    sw7 K0 hB1 hB2 hB3 hB4 hk _ [] rfl (by simp) (by simp) (fun f h1 h2 h3 h4 h5 h6 h7 => by simp [renT, renV_sl, renV_int, renV_ptr, renV_map, dep, h1, h2, h3, h4, h5, h6])
  simp only [List.append_nil] at s1 s2
  have g1 := map_at hMt
  have g4 : ∀ (z1 z2 z3 z4 z5 z6 z7 : Blk), (z1 :: z2 :: z3 :: z4 :: z5 :: z6 :: z7 :: M.map nB)[7 + t]? = some (nB O) := fun z1 z2 z3 z4 z5 z6 z7 => by
    rw [show 7 + t = t + 1 + 1 + 1 + 1 + 1 + 1 + 1 by omega]; exact g1
  simp only [lsB, nB, kmB] at s1 s2 g4 ⊢
  generalize M.map (fun L => Blk.cells (nm L) 1 true true) = Q at *
  generalize slS 7 M = X at *
  generalize M.length = N at *
  generalize 7 + t = ti at *
  generalize kE ks = KE at *
  intro q
  induction q with
  | zero =>
    intro j hj
    obtain rfl : j = kk := by omega
    rw [lpB_eq]
    simp (maxSteps := 1000000) (disch := first | omega | decide | assumption | simp [scal]) [o_convI cv_5_3, lenA_sl lk_22, lenA_sl lk_49, o_indexAddrS es_49, loadA_eq ia_24, lenA_sl lk_24, o_indexAddrS es_24, loadA_eq ia_3, o_indexAddrS es_22, loadA_eq ia_55, za_55, o_build za_55 pl_55, o_sliceS sl_24, ze_24, o_buildSlice es_24 ze_24 (by decide) ba_24_1, ap_24, builtin_append ni_24, want_some q8_16g2, want_some q8_16g6, want_some q8_16g10, want_some q8_157g3, want_some q8_157g8, want_some q8_157g14, -sweep_eq, s1, s2]
  | succ q ih =>
    intro j hj
    have e0 : j < kk := by omega
    have e1 : (j : Int) < kk := by omega
    have e2 : j < n := by omega
    obtain ⟨d, hd⟩ : ∃ d, O[j]? = some d := ⟨O[j], List.getElem?_eq_getElem (by omega)⟩
    have hdn := hOn d (List.mem_of_getElem? hd)
    have g3 : (nm O)[j]? = some (iv d) := by simp [nm, hd]
    have htk : O.take (j + 1) = O.take j ++ [d] := by rw [List.take_add_one, hd]; rfl
    have this := ih (j + 1) (by omega)
    rw [htk, mkS_app] at this
    have hm : mkS (O.take j) < 2 ^ n := mkS_lt fun x hx => hOn x (List.mem_of_mem_take hx)
    have h32 : 2 ^ n ≤ 2 ^ 5 := Nat.pow_le_pow_right (by decide) n5
    have hd32 : 2 ^ d ≤ 2 ^ 5 := Nat.pow_le_pow_right (by decide) (by omega)
    have f1 := @shl_powi d (by omega)
    have f2 := fun t c => @bin_ori Try.prog t c (mkS (O.take j)) (2 ^ d) (by omega) (by omega)
    have f1b : IntKind.i64.wrap (1 * 2 ^ min d IntKind.i64.bits) = ((2 ^ d : Nat) : Int) := by rw [Int.one_mul]; exact f1
    have f3 : ∀ tt cc, binA Try.prog .shl tt cc (.int .i64 1) (.int .i64 (d : Int)) = some (.int .i64 ((2 ^ d : Nat) : Int)) := fun tt cc => by rw [bin_shl (by omega)]; exact congrArg (fun z => some (Value.int .i64 z)) f1b
    have d0 : (0 : Int) ≤ d := by omega
    simp only [cast1] at this
    clear ih htk
    generalize mkS (O.take j) = m at *
    generalize mkS (O.take kk) = m2 at *
    generalize 2 ^ d = dd at *
    generalize m ||| dd = md at *
    rw [lpB_eq]
    simp (maxSteps := 1000000) (disch := first | omega | decide | assumption | simp [scal]) [o_convI cv_5_3, lenA_sl lk_22, lenA_sl lk_49, o_indexAddrS es_49, loadA_eq ia_24, lenA_sl lk_24, o_indexAddrS es_24, loadA_eq ia_3, o_indexAddrS es_22, loadA_eq ia_55, za_55, o_build za_55 pl_55, o_sliceS sl_24, ze_24, o_buildSlice es_24 ze_24 (by decide) ba_24_1, ap_24, builtin_append ni_24, want_some q8_16g2, want_some q8_16g6, want_some q8_16g10, want_some q8_157g3, want_some q8_157g8, want_some q8_157g14, -sweep_eq, -bin_shl, e0, e1, e2, d0, g3, g4, f1, f2, f3, s1, s2, this]
end
section
variable (K0 : Blk) {B1 B2 B3 B4 : Blk} (hB1 : noIdB B1) (hB2 : noIdB B2) (hB3 : noIdB B3) (hB4 : noIdB B4) {M : List (List Nat)} (hk : M.length ≤ 5000)
include hB1 hB2 hB3 hB4 hk
theorem l8f (n kk c1 c2 c3 c4 : Nat) (g : Int) (hO : ∀ O, O ∈ M → O.length = n ∧ ∀ x, x ∈ O → x < n) (n5 : n ≤ 5) (hkk : kk ≤ n) : ∀ (q t : Nat) (ks : List Nat), t + q = M.length →
    lpB Try.prog LL ⟨8, 188, 1, none⟩ n8_124 n8_125 ⟨[(6, iv kk), (10, sl 1 0 c1 c1), (11, sl 2 0 c2 c2), (13, iv g), (15, sl 3 0 c3 c3), (16, sl 4 0 c4 c4), (27, .map (some 5)), (150, iv M.length), (151, iv t), (149, sl 6 0 M.length M.length)], K0 :: B1 :: B2 :: B3 :: B4 :: kmB ks :: lsB 7 M :: M.map nB, []⟩ =
      some (.exit 8, ⟨[(10, sl 1 0 c1 c1), (11, sl 2 0 c2 c2), (13, iv g), (15, sl 3 0 c3 c3), (16, sl 4 0 c4 c4), (27, .map (some 5))], [K0, B1, B2, B3, B4, kmB (kL kk (M.drop t) ks)], []⟩) := by
  intro q
  induction q with
  | zero =>
    intro t ks ht
    obtain rfl : t = M.length := by omega
    rw [List.drop_length]
    simp only [kL]
    have s0 : ∀ R, sweep 1 ⟨[(10, sl 1 0 c1 c1), (11, sl 2 0 c2 c2), (13, iv g), (15, sl 3 0 c3 c3), (16, sl 4 0 c4 c4), (27, .map (some 5))], K0 :: B1 :: B2 :: B3 :: B4 :: kmB ks :: R, []⟩ = _ := fun R => sw7e K0 hB1 hB2 hB3 hB4 _ rfl (fun f h1 h2 h3 h4 h5 => by simp [renT, renV_sl, renV_int, renV_map, dep, h1, h2, h3, h4, h5])
    simp only [lsB, nB, kmB] at s0 ⊢
    generalize M.map (fun L => Blk.cells (nm L) 1 true true) = Q at *
    generalize slS 7 M = X at *
    generalize kE ks = KE at *
    rw [lpB_eq]
    simp (maxSteps := 1000000) (disch := first | omega | decide | assumption | simp [scal]) [o_convI cv_5_3, lenA_sl lk_22, lenA_sl lk_49, o_indexAddrS es_49, loadA_eq ia_24, lenA_sl lk_24, o_indexAddrS es_24, loadA_eq ia_3, o_indexAddrS es_22, loadA_eq ia_55, za_55, o_build za_55 pl_55, o_sliceS sl_24, ze_24, o_buildSlice es_24 ze_24 (by decide) ba_24_1, ap_24, builtin_append ni_24, want_some q8_16g2, want_some q8_16g6, want_some q8_16g10, want_some q8_157g3, want_some q8_157g8, want_some q8_157g14, -sweep_eq, s0]
  | succ q ih =>
    intro t ks ht
    have e0 : t < M.length := by omega
    have e1 : (t : Int) < M.length := by omega
    obtain ⟨O, hMt⟩ : ∃ O, M[t]? = some O := ⟨M[t], List.getElem?_eq_getElem e0⟩
    obtain ⟨hOn, hOx⟩ := hO O (List.mem_of_getElem? hMt)
    have p1 := slS_get M 7 t O hMt
    rw [hOn] at p1
    have g1 := map_at hMt
    have g4 : ∀ (z1 z2 z3 z4 z5 z6 z7 : Blk), (z1 :: z2 :: z3 :: z4 :: z5 :: z6 :: z7 :: M.map nB)[7 + t]? = some (nB O) := fun z1 z2 z3 z4 z5 z6 z7 => by
      rw [show 7 + t = t + 1 + 1 + 1 + 1 + 1 + 1 + 1 by omega]; exact g1
    have hdr : M.drop t = O :: M.drop (t + 1) := by
      rw [List.drop_eq_getElem_cons e0]
      congr 1
      rw [List.getElem?_eq_getElem e0] at hMt
      exact Option.some.inj hMt
    rw [hdr]
    simp only [kL]
    have lg := l8g K0 hB1 hB2 hB3 hB4 hk (ks := ks) n kk c1 c2 c3 c4 t g hMt hOn hOx n5 hkk kk 0 (by omega)
    rw [show mkS (O.take 0) = 0 from rfl] at lg
    have this := ih (t + 1) (kAdd ks (mkS (O.take kk))) (by omega)
    generalize mkS (O.take kk) = m at *
    have s0 : sweep 1 ⟨[(30, iv 0), (158, iv kk), (159, iv 0), (6, iv kk), (10, sl 1 0 c1 c1), (11, sl 2 0 c2 c2), (13, iv g), (15, sl 3 0 c3 c3), (16, sl 4 0 c4 c4), (27, .map (some 5)), (150, iv M.length), (151, iv t), (149, sl 6 0 M.length M.length), (157, sl (7 + t) 0 kk n)], K0 :: B1 :: B2 :: B3 :: B4 :: kmB ks :: lsB 7 M :: (M.map nB ++ []), []⟩ = _ :=
      sw7 K0 hB1 hB2 hB3 hB4 hk _ [7 + t] rfl (by simp) (by intro z hz; simp at hz; omega) (fun f h1 h2 h3 h4 h5 h6 h7 => by have := h7 t e0; simp [renT, renV_sl, renV_int, renV_ptr, renV_map, dep, h1, h2, h3, h4, h5, h6, this])
    have s1 : ∀ (j : Int) (ks : List Nat), sweep 1 ⟨[(6, iv kk), (10, sl 1 0 c1 c1), (11, sl 2 0 c2 c2), (13, iv g), (15, sl 3 0 c3 c3), (16, sl 4 0 c4 c4), (27, .map (some 5)), (150, iv M.length), (151, iv j), (149, sl 6 0 M.length M.length)], K0 :: B1 :: B2 :: B3 :: B4 :: kmB ks :: lsB 7 M :: (M.map nB ++ []), []⟩ = _ := fun j ks =>
      sw7 K0 hB1 hB2 hB3 hB4 hk _ [] rfl (by simp) (by simp) (fun f h1 h2 h3 h4 h5 h6 h7 => by simp [renT, renV_sl, renV_int, renV_ptr, renV_map, dep, h1, h2, h3, h4, h5, h6])
    have s2 := s1 ((t : Int) + 1) (kAdd ks m)
    have u0 := fun R => upd58 (h := K0 :: B1 :: B2 :: B3 :: B4 :: kmB ks :: R) (b := 5) (x := m) rfl
    have e3 : (kk : Int) ≤ n := by omega
    generalize kAdd ks m = ks2 at *
    generalize kL kk (M.drop (t + 1)) ks2 = Z at *
    simp only [List.append_nil, List.set_cons_succ, List.set_cons_zero] at s0 s2 u0
    simp only [cast1] at this
    clear ih hdr s1
    simp only [lsB, nB, Int.natCast_zero] at s0 s2 lg g4 this u0 ⊢
    simp only [kmB] at s0 s2 lg this u0 ⊢
    generalize M.map (fun L => Blk.cells (nm L) 1 true true) = Q at *
    generalize slS 7 M = X at *
    generalize 7 + t = ti at *
    generalize kE ks = KE at *
    generalize kE ks2 = KE2 at *
    generalize kE Z = KE3 at *
    rw [lpB_eq]
    simp (maxSteps := 1000000) (disch := first | omega | decide | assumption | simp [scal]) [o_convI cv_5_3, lenA_sl lk_22, lenA_sl lk_49, o_indexAddrS es_49, loadA_eq ia_24, lenA_sl lk_24, o_indexAddrS es_24, loadA_eq ia_3, o_indexAddrS es_22, loadA_eq ia_55, za_55, o_build za_55 pl_55, o_sliceS sl_24, ze_24, o_buildSlice es_24 ze_24 (by decide) ba_24_1, ap_24, builtin_append ni_24, want_some q8_16g2, want_some q8_16g6, want_some q8_16g10, want_some q8_157g3, want_some q8_157g8, want_some q8_157g14, -sweep_eq, e0, e1, e3, p1, g4, lg, o_mapU, u0, s0, s2, this]
end
end Go.Proofs.Ytfccmddkblbeoaa.rk
namespace Go.Proofs.Ytfccmddkblbeoaa.rk
open Go.GE
set_option linter.unusedVariables false
set_option linter.unusedSimpArgs false
set_option linter.unusedSectionVars false
set_option maxRecDepth 100000
set_option maxHeartbeats 4000000
theorem mnO_le {i : Nat} : ∀ (O : List Nat) (j a : Nat), mnO i O j a ≤ a := by
  intro O
  induction O with
  | nil => intro j a; exact Nat.le_refl _
  | cons d O ih =>
    intro j a
    unfold mnO
    refine Nat.le_trans (ih _ _) ?_
    split
    · split <;> omega
    · omega
theorem mnO_at {i : Nat} : ∀ (O : List Nat) (j a p : Nat), O[p]? = some i → mnO i O j a ≤ j + p + 1 := by
  intro O
  induction O with
  | nil => intro j a p h; simp at h
  | cons d O ih =>
    intro j a p h
    unfold mnO
    cases p with
    | zero =>
      simp only [List.getElem?_cons_zero, Option.some.injEq] at h
      refine Nat.le_trans (mnO_le _ _ _) ?_
      rw [if_pos h]
      split <;> omega
    | succ p =>
      rw [List.getElem?_cons_succ] at h
      have := ih (j + 1) (if d = i then (if j + 1 < a then j + 1 else a) else a) p h
      omega
theorem mnO_ge {i lo : Nat} : ∀ (O : List Nat) (j a : Nat), (∀ p, O[p]? = some i → lo ≤ j + p + 1) → lo ≤ a → lo ≤ mnO i O j a := by
  intro O
  induction O with
  | nil => intro j a _ h; exact h
  | cons d O ih =>
    intro j a h h2
    unfold mnO
    refine ih _ _ (fun p hp => ?_) ?_
    · have := h (p + 1) (by rw [List.getElem?_cons_succ]; exact hp); omega
    · split
      · rename_i hd
        have := h 0 (by rw [List.getElem?_cons_zero, hd])
        split <;> omega
      · exact h2
theorem mxO_ge {i : Nat} : ∀ (O : List Nat) (j a : Nat), a ≤ mxO i O j a := by
  intro O
  induction O with
  | nil => intro j a; exact Nat.le_refl _
  | cons d O ih =>
    intro j a
    unfold mxO
    refine Nat.le_trans ?_ (ih _ _)
    split
    · split <;> omega
    · omega
theorem mxO_at {i : Nat} : ∀ (O : List Nat) (j a p : Nat), O[p]? = some i → j + p + 1 ≤ mxO i O j a := by
  intro O
  induction O with
  | nil => intro j a p h; simp at h
  | cons d O ih =>
    intro j a p h
    unfold mxO
    cases p with
    | zero =>
      simp only [List.getElem?_cons_zero, Option.some.injEq] at h
      refine Nat.le_trans ?_ (mxO_ge _ _ _)
      rw [if_pos h]
      split <;> omega
    | succ p =>
      rw [List.getElem?_cons_succ] at h
      have := ih (j + 1) (if d = i then (if a < j + 1 then j + 1 else a) else a) p h
      omega
theorem mxO_le {i hi : Nat} : ∀ (O : List Nat) (j a : Nat), (∀ p, O[p]? = some i → j + p + 1 ≤ hi) → a ≤ hi → mxO i O j a ≤ hi := by
  intro O
  induction O with
  | nil => intro j a _ h; exact h
  | cons d O ih =>
    intro j a h h2
    unfold mxO
    refine ih _ _ (fun p hp => ?_) ?_
    · have := h (p + 1) (by rw [List.getElem?_cons_succ]; exact hp); omega
    · split
      · rename_i hd
        have := h 0 (by rw [List.getElem?_cons_zero, hd])
        split <;> omega
      · exact h2
theorem mnM_le {i : Nat} : ∀ (M : List (List Nat)) (a : Nat), mnM i M a ≤ a := by
  intro M
  induction M with
  | nil => intro a; exact Nat.le_refl _
  | cons O M ih => intro a; exact Nat.le_trans (ih _) (mnO_le _ _ _)
theorem mnM_at {i : Nat} {O : List Nat} {p : Nat} (hp : O[p]? = some i) : ∀ (M : List (List Nat)) (a : Nat), O ∈ M → mnM i M a ≤ p + 1 := by
  intro M
  induction M with
  | nil => intro a h; cases h
  | cons P M ih =>
    intro a h
    unfold mnM
    rcases List.mem_cons.1 h with rfl | h
    · have := mnO_at O 0 a p hp
      have := mnM_le (i := i) M (mnO i O 0 a)
      omega
    · exact ih _ h
theorem mnM_ge {i lo : Nat} : ∀ (M : List (List Nat)) (a : Nat), (∀ O, O ∈ M → ∀ p, O[p]? = some i → lo ≤ p + 1) → lo ≤ a → lo ≤ mnM i M a := by
  intro M
  induction M with
  | nil => intro a _ h; exact h
  | cons O M ih =>
    intro a h h2
    exact ih _ (fun P hP => h P (by simp [hP])) (mnO_ge O 0 a (fun p hp => by have := h O (by simp) p hp; omega) h2)
theorem mxM_ge {i : Nat} : ∀ (M : List (List Nat)) (a : Nat), a ≤ mxM i M a := by
  intro M
  induction M with
  | nil => intro a; exact Nat.le_refl _
  | cons O M ih => intro a; exact Nat.le_trans (mxO_ge _ _ _) (ih _)
theorem mxM_at {i : Nat} {O : List Nat} {p : Nat} (hp : O[p]? = some i) : ∀ (M : List (List Nat)) (a : Nat), O ∈ M → p + 1 ≤ mxM i M a := by
  intro M
  induction M with
  | nil => intro a h; cases h
  | cons P M ih =>
    intro a h
    unfold mxM
    rcases List.mem_cons.1 h with rfl | h
    · have := mxO_at O 0 a p hp
      have := mxM_ge (i := i) M (mxO i O 0 a)
      omega
    · exact ih _ h
theorem mxM_le {i hi : Nat} : ∀ (M : List (List Nat)) (a : Nat), (∀ O, O ∈ M → ∀ p, O[p]? = some i → p + 1 ≤ hi) → a ≤ hi → mxM i M a ≤ hi := by
  intro M
  induction M with
  | nil => intro a _ h; exact h
  | cons O M ih =>
    intro a h h2
    exact ih _ (fun P hP => h P (by simp [hP])) (mxO_le O 0 a (fun p hp => by have := h O (by simp) p hp; omega) h2)
theorem fold_cnt {n : Nat} : ∀ (B : List Nat) (M : Nat), B.Nodup → (∀ x, x ∈ B → x < n ∧ M.testBit x = false) → cntU n (B.foldl (fun M i => M ||| 2 ^ i) M) + B.length = cntU n M := by
  intro B
  induction B with
  | nil => intro M _ _; rfl
  | cons b B ih =>
    intro M hn h
    obtain ⟨h1, h2⟩ := List.nodup_cons.1 hn
    obtain ⟨h3, h4⟩ := h b (by simp)
    have := cntU_lt h4 n h3
    have := ih (M ||| 2 ^ b) h2 fun x hx => ⟨(h x (by simp [hx])).1, by
      rw [bit_or, (h x (by simp [hx])).2]
      simp only [Bool.false_or, decide_eq_false_iff_not]
      intro e
      subst e
      exact h1 hx⟩
    simp only [List.foldl_cons, List.length_cons]
    omega
def setF (n : Nat) (p : Nat → Bool) : Nat := mkS ((List.range n).filter p)
theorem setF_bit {n t : Nat} {p : Nat → Bool} : (setF n p).testBit t = (decide (t < n) && p t) := by
  unfold setF
  rw [mkS_bit]
  cases h : p t <;> simp [h]
theorem setF_lt {n : Nat} {p : Nat → Bool} : setF n p < 2 ^ n := mkS_lt fun x hx => List.mem_range.1 (List.mem_filter.1 hx).1
theorem setF_size {n : Nat} {p : Nat → Bool} (n5 : n ≤ 5) : sizeN (setF n p) = (List.range n).countP p := by
  have h := fold_cnt (n := n) ((List.range n).filter p) 0 (List.nodup_range.filter _) fun x hx => ⟨List.mem_range.1 (List.mem_filter.1 hx).1, Nat.zero_testBit x⟩
  rw [cntU_zero] at h
  have z := size_cnt n5 (setF_lt (p := p))
  have e : setF n p = ((List.range n).filter p).foldl (fun M i => M ||| 2 ^ i) 0 := rfl
  rw [← e] at h
  rw [List.countP_eq_length_filter]
  omega
theorem three {l : Nat → Int × Int} {i : Nat} (hq : quiet l i i = false) : ∀ m, (List.range m).countP (fun t => !quiet l i t && !decide (t = i)) + (List.range m).countP (fun t => quiet l i t) + (if i < m then 1 else 0) = m := by
  intro m
  induction m with
  | zero => simp
  | succ m ih =>
    rw [List.range_succ, List.countP_append, List.countP_append]
    by_cases e : m = i
    · subst e
      simp only [List.countP_cons, List.countP_nil, hq]
      simp at ih ⊢
      omega
    · have e1 : (if i < m + 1 then 1 else 0) = (if i < m then 1 else 0) := by
        by_cases h : i < m
        · rw [if_pos h, if_pos (by omega)]
        · rw [if_neg h, if_neg (by omega)]
      rw [e1]
      simp only [List.countP_cons, List.countP_nil]
      cases quiet l i m <;> simp [e] <;> omega
section
variable {A : List (Int × Int)} {n : Nat} {M : List (List Nat)} (H : OkM A) (hA : A.length = n) (n5 : n ≤ 5) (hM : M = ords (nxB (spAt A) n) n n 0) (hk : M.length ≤ 5000)
include H hA n5 hM hk
theorem pl_bd {i : Nat} {O : List Nat} (hO : O ∈ M) {p : Nat} (hp : O[p]? = some i) : (rkS (spAt A) n i).1 ≤ (p : Int) + 1 ∧ (p : Int) + 1 ≤ (rkS (spAt A) n i).2 := by
  have S := (ord_MO H hA n5 hM hk hO).1
  have hOO := hO
  rw [hM] at hOO
  obtain ⟨h1, h2, h3, h4⟩ := (full_iff (quiet_self H hA)).1 hOO
  have hpl := (List.getElem?_eq_some_iff.1 hp).1
  have e : O.getD p 0 = i := by rw [List.getD_eq_getElem?_getD, hp]; rfl
  rw [← e]
  refine rk_pos S (fun i j hij hj => ?_) (by omega)
  have := List.pairwise_iff_getElem.1 h4 i j (by omega) (by omega) hij
  unfold qt
  simpa [show i < O.length by omega, show j < O.length by omega] using this
theorem pl_lo {i : Nat} (hi : i < n) : ∃ (O : List Nat) (p : Nat), O ∈ M ∧ O[p]? = some i ∧ (p : Int) + 1 = (rkS (spAt A) n i).1 := by
  have hs := quiet_self H hA i hi
  have hlt : ∀ t, t < n → (spAt A t).1 ≤ (spAt A t).2 := fun t ht => (H.at (by omega)).2.1
  obtain ⟨O, o1, o2⟩ := at_of H hA n5 hM (s := setF n fun t => quiet (spAt A) t i) (i := i) hi setF_lt (fun j hj hb t ht hb' => by
    rw [setF_bit] at hb hb'
    simp only [hj, ht, decide_true, Bool.true_and] at hb hb'
    have := hlt j hj
    unfold quiet at hb hb' ⊢
    simp only [decide_eq_true_eq, decide_eq_false_iff_not] at hb hb' ⊢
    omega) (by rw [setF_bit, hs]; simp) (fun t ht hb => by
    rw [setF_bit] at hb
    simpa [ht] using hb)
  rw [setF_size n5] at o2
  refine ⟨O, _, o1, o2, ?_⟩
  rw [rkS_cnt]
  simp only []
  omega
theorem pl_hi {i : Nat} (hi : i < n) : ∃ (O : List Nat) (p : Nat), O ∈ M ∧ O[p]? = some i ∧ (p : Int) + 1 = (rkS (spAt A) n i).2 := by
  have hs := quiet_self H hA i hi
  have hlt : ∀ t, t < n → (spAt A t).1 ≤ (spAt A t).2 := fun t ht => (H.at (by omega)).2.1
  obtain ⟨O, o1, o2⟩ := at_of H hA n5 hM (s := setF n fun t => !quiet (spAt A) i t && !decide (t = i)) (i := i) hi setF_lt (fun j hj hb t ht hb' => by
    rw [setF_bit] at hb hb'
    simp only [hj, ht, decide_true, Bool.true_and, Bool.and_eq_true, Bool.not_eq_true', decide_eq_false_iff_not] at hb
    simp only [hj, ht, decide_true, Bool.true_and, Bool.and_eq_false_iff, Bool.not_eq_false', decide_eq_true_eq] at hb'
    have := hlt j hj
    have := hlt t ht
    have := hlt i hi
    rcases hb' with h | rfl
    · have h1 := hb.1
      unfold quiet at h h1 ⊢
      simp only [decide_eq_true_eq, decide_eq_false_iff_not] at h h1 ⊢
      omega
    · exact hb.1) (by rw [setF_bit]; simp) (fun t ht hb => by
    rw [setF_bit] at hb
    simp only [ht, decide_true, Bool.true_and, Bool.and_eq_false_iff, Bool.not_eq_false', decide_eq_true_eq] at hb
    have := hlt t ht
    have := hlt i hi
    rcases hb with h | rfl
    · unfold quiet at h ⊢
      simp only [decide_eq_true_eq, decide_eq_false_iff_not] at h ⊢
      omega
    · exact hs)
  rw [setF_size n5] at o2
  refine ⟨O, _, o1, o2, ?_⟩
  have := three (l := spAt A) hs n
  rw [if_pos hi] at this
  rw [rkS_cnt]
  simp only []
  omega
theorem F1_ok {i : Nat} (hi : i < n) : ((mnM i M n : Nat) : Int) = (rkS (spAt A) n i).1 ∧ ((mxM i M 1 : Nat) : Int) = (rkS (spAt A) n i).2 := by
  obtain ⟨O, p, o1, o2, o3⟩ := pl_lo H hA n5 hM hk hi
  obtain ⟨P, q, q1, q2, q3⟩ := pl_hi H hA n5 hM hk hi
  have hl : ∀ O, O ∈ M → O.length = n := fun O h => by rw [hM] at h; exact ((ords_mem _ _ _).1 h).1
  have pl := (List.getElem?_eq_some_iff.1 o2).1
  have ql := (List.getElem?_eq_some_iff.1 q2).1
  rw [hl O o1] at pl
  rw [hl P q1] at ql
  have a1 := mnM_at o2 M n o1
  have a2 := mnM_ge (i := i) (lo := p + 1) M n (fun Q hQ r hr => by have := (pl_bd H hA n5 hM hk hQ hr).1; omega) (by omega)
  have b1 := mxM_at q2 M 1 q1
  have b2 := mxM_le (i := i) (hi := q + 1) M 1 (fun Q hQ r hr => by have := (pl_bd H hA n5 hM hk hQ hr).2; omega) (by omega)
  constructor <;> omega
theorem in_take {O : List Nat} {i kk : Nat} : inB kk i O = true ↔ ∃ p, p < kk ∧ O[p]? = some i := by
  unfold inB
  rw [List.contains_iff_mem]
  constructor
  · intro h
    obtain ⟨p, hp⟩ := List.getElem?_of_mem h
    rw [List.getElem?_take] at hp
    split at hp
    · exact ⟨p, by assumption, hp⟩
    · cases hp
  · rintro ⟨p, h1, h2⟩
    refine List.mem_of_getElem? (i := p) ?_
    rw [List.getElem?_take, if_pos h1]; exact h2
theorem F2_ok {i kk : Nat} (hi : i < n) : 0 < (M.filter (inB kk i)).length ↔ (rkS (spAt A) n i).1 ≤ kk := by
  rw [List.length_pos_iff_exists_mem]
  constructor
  · rintro ⟨O, hO⟩
    obtain ⟨h1, h2⟩ := List.mem_filter.1 hO
    obtain ⟨p, p1, p2⟩ := (in_take H hA n5 hM hk).1 h2
    have := (pl_bd H hA n5 hM hk h1 p2).1
    omega
  · intro h
    obtain ⟨O, p, o1, o2, o3⟩ := pl_lo H hA n5 hM hk hi
    exact ⟨O, List.mem_filter.2 ⟨o1, (in_take H hA n5 hM hk).2 ⟨p, by omega, o2⟩⟩⟩
theorem F3_ok {i kk : Nat} (hi : i < n) : (M.filter (inB kk i)).length = M.length ↔ (rkS (spAt A) n i).2 ≤ kk := by
  rw [List.length_filter_eq_length_iff]
  constructor
  · intro h
    obtain ⟨O, p, o1, o2, o3⟩ := pl_hi H hA n5 hM hk hi
    obtain ⟨q, q1, q2⟩ := (in_take H hA n5 hM hk).1 (h O o1)
    have hOO := o1
    rw [hM] at hOO
    obtain ⟨h1, h2, h3, h4⟩ := (full_iff (quiet_self H hA)).1 hOO
    have e : p = q := by
      have pl := (List.getElem?_eq_some_iff.1 o2).1
      exact (List.getElem?_inj pl h3).1 (by rw [o2, q2])
    omega
  · intro h O hO
    have hOO := hO
    rw [hM] at hOO
    obtain ⟨h1, h2, h3, h4⟩ := (full_iff (quiet_self H hA)).1 hOO
    obtain ⟨p, hp⟩ := List.getElem?_of_mem (full_mem h3 h2 h1 hi)
    have := (pl_bd H hA n5 hM hk hO hp).2
    exact (in_take H hA n5 hM hk).2 ⟨p, by omega, hp⟩
theorem kL_mem {kk x : Nat} : ∀ (M : List (List Nat)) (ks : List Nat), x ∈ kL kk M ks ↔ x ∈ ks ∨ ∃ O, O ∈ M ∧ mkS (O.take kk) = x := by
  intro M
  induction M with
  | nil => intro ks; simp [kL]
  | cons O M ih =>
    intro ks
    unfold kL
    rw [ih]
    have : x ∈ kAdd ks (mkS (O.take kk)) ↔ x ∈ ks ∨ mkS (O.take kk) = x := by
      unfold kAdd
      split
      · rename_i h
        constructor
        · exact .inl
        · rintro (h2 | rfl)
          · exact h2
          · exact h
      · simp only [List.mem_append, List.mem_singleton]
        constructor
        · rintro (h | h)
          · exact .inl h
          · exact .inr h.symm
        · rintro (h | h)
          · exact .inl h
          · exact .inr h.symm
    rw [this]
    simp only [List.mem_cons]
    constructor
    · rintro ((h | h) | ⟨P, h1, h2⟩)
      · exact .inl h
      · exact .inr ⟨O, .inl rfl, h⟩
      · exact .inr ⟨P, .inr h1, h2⟩
    · rintro (h | ⟨P, rfl | h1, h2⟩)
      · exact .inl (.inl h)
      · exact .inl (.inr h2)
      · exact .inr ⟨P, h1, h2⟩
theorem kL_nd {kk : Nat} : ∀ (M : List (List Nat)) (ks : List Nat), ks.Nodup → (kL kk M ks).Nodup := by
  intro M
  induction M with
  | nil => intro ks h; exact h
  | cons O M ih =>
    intro ks h
    unfold kL
    refine ih _ ?_
    unfold kAdd
    split
    · exact h
    · rename_i hx
      rw [List.nodup_append]
      refine ⟨h, by simp, fun a ha b hb => ?_⟩
      simp only [List.mem_singleton] at hb
      subst hb
      intro e
      subst e
      exact hx ha
theorem gr_nd {nx : Nat → Nat → Bool} {K : Int} : ∀ q s, (grL nx n K q s).Nodup := by
  intro q
  induction q with
  | zero => intro s; exact List.nodup_nil
  | succ q ih =>
    intro s
    unfold grL
    split
    · refine List.nodup_cons.2 ⟨fun h => ?_, ih _⟩
      have := (grL_mem _ _ _ h).1
      omega
    · exact ih _
theorem gr_cnt {kk : Nat} (hkk : kk ≤ n) (h1 : 1 ≤ n) : grE (spAt A) n (kk : Int) = 0 ∧ grV (spAt A) n (kk : Int) = (kL kk M []).length := by
  have hc := cnt_ok H hA n5
  have e : grE (spAt A) n (kk : Int) = 0 := by
    unfold grE
    rw [if_pos hc.1, if_pos (by simp; omega)]
  refine ⟨e, ?_⟩
  unfold grV
  rw [if_pos e]
  refine Nat.le_antisymm (nd_len (gr_nd H hA n5 hM hk _ _) fun x hx => ?_) (nd_len (kL_nd H hA n5 hM hk _ _ List.nodup_nil) fun x hx => ?_)
  · exact (kL_mem H hA n5 hM hk _ _).2 (.inr ((grp_mem H hA n5 hM hkk).1 hx))
  · rcases (kL_mem H hA n5 hM hk _ _).1 hx with h | h
    · cases h
    · exact (grp_mem H hA n5 hM hkk).2 h
end
end Go.Proofs.Ytfccmddkblbeoaa.rk
namespace Go.Proofs.Ytfccmddkblbeoaa.rk
open Go.GE
set_option linter.unusedVariables false
set_option linter.unusedSimpArgs false
set_option linter.unusedSectionVars false
set_option maxRecDepth 100000
set_option maxHeartbeats 4000000
attribute [local simp] runOps_nil runOps_cons runOpsF_nil runOpsF_cons fstS_some fstF_some opStep_eq want_none oStep_true oStep_false fin_pure fin_read fin_alloc fin_write storeB wrN cellV addWr o_move o_assign o_pick o_alloc o_box o_load o_store o_nilCheck o_bin o_un o_extract o_callV o_callB o_callI callV_f callV_y callV_fc o_makeFunc partsA Instr.fill builtin_len builtin_max2 bin_add bin_sub bin_mul bin_quo bin_rem bin_lss bin_leq bin_gtr bin_geq bin_eql bin_neq un_neg un_not bin_shr bin_shl wrap_u64_id opd opds optAll putO nbeq nblt constOk isC ops sub cl cr co bodyOf thenS_normal thenS_ret thenS_exit thenS_goto afterN_normal afterN_ret afterN_exit afterN_goto condS_true condS_false blockS_normal blockS_ret blockS_exit blockS_goto headS normS normK_eq fixS_nil fixS_cons fix1 fixV emptyB keepO_nil keepO_cons roundC_normal roundC_exit roundC_ret roundC_goto sweep_eq sweepD rnm pickR pickW rootsB ptrT renT ptrFn renFn ptrB_flat ptrB_non renB_flat renB_non plainS_some drawS_some fpsOk disj unord range' dropTo enumT undef wrap_i64_id Value.cells mkCells ptrTo scal cellsAt rdN endS_ret resultsA Option.bind_some tupV finish reachN dep ptrL_eq ptrL renL_eq renL ptrV_bool ptrV_int ptrV_string ptrV_nilFunc ptrV_nilIface ptrV_nilPtr ptrV_ptr ptrV_nilSl ptrV_sl ptrV_iface ptrV_agg ptrV_tuple ptrV_func renV_bool renV_int renV_string renV_nilFunc renV_nilIface renV_nilPtr renV_ptr renV_nilSl renV_sl renV_iface renV_agg renV_tuple renV_func gotoS_goto gotoS_normal gotoS_exit gotoS_ret skip_seq sliceE bnd bndHi intOf optOpd keepT_nil keepT_cons keepC_t keepC_f lk_nil lk_cons lkC_t lkC_f has_nil has_cons hasC_t hasC_f rep_nil rep_cons repC_t repC_f put_eq putC_t putC_f mem_nil mem_cons memC_t memC_f idx_nil idx_cons idxC_t idxC_f reach_nil reachP_cons reachQ_t reachQ_f ptrB_dead renB_dead ins_eq
attribute [local simp] n8_1s n8_3s n8_5s n8_7s n8_9s n8_11s n8_13s n8_16s n8_19s n8_20s n8_18s n8_21s n8_17s n8_15s n8_23s n8_26s n8_30s n8_33s n8_34s n8_32s n8_38s n8_40s n8_43s n8_47s n8_50s n8_51s n8_49s n8_55s n8_57s n8_61s n8_64s n8_65s n8_63s n8_69s n8_71s n8_73s n8_74s n8_72s n8_70s n8_68s n8_67s n8_75s n8_66s n8_62s n8_60s n8_59s n8_59g n8_58s n8_56s n8_54s n8_53s n8_76s n8_52s n8_48s n8_46s n8_45s n8_45g n8_44s n8_42s n8_79s n8_82s n8_83s n8_81s n8_84s n8_80s n8_78s n8_87s n8_91s n8_94s n8_95s n8_93s n8_99s n8_101s n8_103s n8_104s n8_102s n8_100s n8_98s n8_97s n8_105s n8_96s n8_92s n8_90s n8_89s n8_89g n8_88s n8_86s n8_108s n8_110s n8_111s n8_109s n8_107s n8_113s n8_115s n8_116s n8_114s n8_112s n8_106s n8_85s n8_77s n8_41s n8_39s n8_37s n8_36s n8_117s n8_35s n8_31s n8_29s n8_28s n8_28g n8_27s n8_25s n8_119s n8_122s n8_126s n8_129s n8_130s n8_128s n8_134s n8_136s n8_139s n8_143s n8_146s n8_147s n8_145s n8_151s n8_152s n8_150s n8_149s n8_153s n8_148s n8_144s n8_142s n8_141s n8_141g n8_140s n8_138s n8_154s n8_137s n8_135s n8_133s n8_132s n8_155s n8_131s n8_127s n8_125s n8_124s n8_124g n8_123s n8_121s n8_157s n8_158s n8_156s n8_120s n8_118s n8_24s n8_22s n8_14s n8_12s n8_10s n8_8s n8_6s n8_4s n8_2s n8_0s Try.f8
section
variable (K0 : Blk) {M : List (List Nat)} (hk : M.length ≤ 5000) {n : Nat} (n5 : n ≤ 5) (hO : ∀ O, O ∈ M → O.length = n ∧ ∀ x, x ∈ O → x < n) {kk : Nat} (hkk : kk ≤ n) {C D : List Nat} (hC : C.length ≤ 5) (hD : D.length ≤ 5)
include hk n5 hO hkk hC hD
theorem t118 : codeB Try.prog LL ⟨8, 188, 1, none⟩ n8_118 ⟨[(6, iv kk), (10, sl 1 0 C.length C.length), (11, sl 2 0 D.length D.length), (13, iv (kL kk M []).length), (15, sl 3 0 C.length C.length), (16, sl 4 0 D.length D.length), (7, sl 5 0 M.length M.length)], K0 :: nB C :: nB D :: nB C :: nB D :: lsB 6 M :: M.map nB, []⟩ =
    some (.ret, ⟨[(4, .bool true)], [K0], []⟩) := by
  have lf := l8f K0 (B1 := nB C) (B2 := nB D) (B3 := nB C) (B4 := nB D) noIdB_flat noIdB_flat noIdB_flat noIdB_flat hk n kk C.length D.length C.length D.length (kL kk M []).length hO n5 hkk M.length 0 [] (by omega)
  rw [List.drop_zero] at lf
  have s0 := sw7n K0 (B1 := nB C) (B2 := nB D) (B3 := nB C) (B4 := nB D) noIdB_flat noIdB_flat noIdB_flat noIdB_flat hk (ks := []) [(6, iv kk), (10, sl 1 0 C.length C.length), (11, sl 2 0 D.length D.length), (13, iv (kL kk M []).length), (15, sl 3 0 C.length C.length), (16, sl 4 0 D.length D.length), (27, .map (some (M.length + 6))), (150, iv M.length), (151, iv 0), (149, sl 5 0 M.length M.length)]
    [(6, iv kk), (10, sl 1 0 C.length C.length), (11, sl 2 0 D.length D.length), (13, iv (kL kk M []).length), (15, sl 3 0 C.length C.length), (16, sl 4 0 D.length D.length), (27, .map (some 5)), (150, iv M.length), (151, iv 0), (149, sl 6 0 M.length M.length)] rfl (fun f h1 h2 h3 h4 h5 h6 => by simp [renT, renV_sl, renV_int, renV_map, dep, h1, h2, h3, h4, h5, h6])
  generalize kL kk M [] = ks at *
  have a1 := k21 (L := C) 1 3 (h := [K0, nB C, nB D, nB C, nB D, kmB ks]) rfl rfl (by omega) (by omega)
  have a2 := k21 (L := D) 2 4 (h := [K0, nB C, nB D, nB C, nB D, kmB ks]) rfl rfl (by omega) (by omega)
  have ln := len58 (h := [K0, nB C, nB D, nB C, nB D, kmB ks]) (b := 5) rfl
  have sF := fun R => sw_none (K0 := K0) (R := R)
  have hQ : (M.map nB).length = M.length := by simp
  have nn : ∀ a b : Nat, M.length + a + b = M.length + (a + b) := fun a b => Nat.add_assoc _ a b
  have e0 : kmB [] = .map [] := rfl
  rw [e0] at s0 lf
  clear hO e0
  simp only [lsB, nB, Int.natCast_zero] at s0 lf a1 a2 ln hQ ⊢
  simp only [kmB] at s0 lf a1 a2 ln
  generalize M.map (fun L => Blk.cells (nm L) 1 true true) = Q at *
  generalize slS 6 M = X at *
  generalize slS 7 M = Y at *
  generalize kE ks = KE at *
  generalize M.length = k' at *
  simp (maxSteps := 1000000) (disch := first | omega | decide | assumption | simp [scal]) [o_convI cv_5_3, lenA_sl lk_22, lenA_sl lk_49, o_indexAddrS es_49, loadA_eq ia_24, lenA_sl lk_24, o_indexAddrS es_24, loadA_eq ia_3, o_indexAddrS es_22, loadA_eq ia_55, za_55, o_build za_55 pl_55, o_sliceS sl_24, ze_24, o_buildSlice es_24 ze_24 (by decide) ba_24_1, ap_24, builtin_append ni_24, want_some q8_16g2, want_some q8_16g6, want_some q8_16g10, want_some q8_157g3, want_some q8_157g8, want_some q8_157g14, -sweep_eq, o_makeMap, s0, lf, a1, a2, ln, k14, hQ, nn, sF]
end
section
variable (off n0 c p : Nat) {cs : List Value} {own : Bool} {g : Nat → Nat × Nat}
theorem c8 (hc : WeC cs off n0 g) (hp : p < 256) : LL.run 8 [sl 0 off n0 c, uv p] [.cells cs 2 true own] = some ⟨.bool true, [], []⟩ := by
  have a35 := k35 off n0 c 0 (h := [.cells cs 2 true own]) rfl hc
  have hM := madR_M (g := g) (n := n0)
  obtain ⟨g1, g5, glo⟩ := madR_ok (g := g) (n := n0)
  generalize madR g n0 = A at *
  obtain ⟨n, hn⟩ : ∃ n, A.length = n := ⟨_, rfl⟩
  have n5 : n ≤ 5 := by omega
  have hn1 : 1 ≤ n := by omega
  have n60 : n ≤ 60 := by omega
  have sA := spAt_C A
  rw [hn] at a35 sA
  have a36 := k36n (h := [.cells cs 2 true own, spB A]) (b := 1) rfl sA n5 hn1
  have hbd := oFL_bound (l := spAt A) n5 n []
  have hp5 : (5 : Nat) ^ n ≤ 5 ^ 5 := Nat.pow_le_pow_right (by decide) n5
  have e5 : (5 : Nat) ^ 5 = 3125 := rfl
  rw [all_ords hM hn n5] at a36 hbd
  have hck := hM.chk
  rw [hn] at hck
  have h0 : (ords (nxB (spAt A) n) n n 0)[0]? = some (fstR (spAt A) n) := by
    rw [fs_get (chk_le hck) n 0 cntU_zero]
    unfold fstR
    rw [if_pos hck]
  have hN : 0 < (ords (nxB (spAt A) n) n n 0).length := (List.getElem?_eq_some_iff.1 h0).1
  have hk5 : (ords (nxB (spAt A) n) n n 0).length ≤ 5000 := by omega
  obtain ⟨a, ea⟩ : ∃ a, p % n = a := ⟨_, rfl⟩
  have ta : Int.tmod (p : Int) (n : Int) = (a : Int) := by rw [Int.tmod_eq_emod_of_nonneg (by omega)]; omega
  have an : a < n := by rw [← ea]; exact Nat.mod_lt _ (by omega)
  have hne : (n : Int) ≠ 0 := by omega
  have hMe : ords (nxB (spAt A) n) n n 0 = ords (nxB (spAt A) n) n n 0 := rfl
  have hO2 : ∀ O, O ∈ ords (nxB (spAt A) n) n n 0 → O.length = n ∧ ∀ x, x ∈ O → x < n := fun O h => by
    obtain ⟨f1, f2, f3, _⟩ := (full_iff (quiet_self hM hn)).1 h
    exact ⟨f1, f2⟩
  have hO : ∀ O, O ∈ ords (nxB (spAt A) n) n n 0 → O.length = n := fun O h => (hO2 O h).1
  have F1 := fun i hi => F1_ok (i := i) hM hn n5 hMe hk5 hi
  have F2 := fun i hi => F2_ok (i := i) (kk := a + 1) hM hn n5 hMe hk5 hi
  have F3 := fun i hi => F3_ok (i := i) (kk := a + 1) hM hn n5 hMe hk5 hi
  obtain ⟨q1, q2⟩ := gr_cnt hM hn n5 hMe hk5 (kk := a + 1) (by omega) hn1
  generalize ords (nxB (spAt A) n) n n 0 = M at *
  have eC : qstC (spAt A) n ((a + 1 : Nat) : Int) = canF (rkS (spAt A) n) ((a + 1 : Nat) : Int) n := by unfold qstC; rw [if_pos ⟨hck, by simp; omega⟩]
  have eD : qstD (spAt A) n ((a + 1 : Nat) : Int) = sureF (rkS (spAt A) n) ((a + 1 : Nat) : Int) n := by unfold qstD; rw [if_pos ⟨hck, by simp; omega⟩]
  have eE : qstE (spAt A) n ((a + 1 : Nat) : Int) = 0 := by unfold qstE; rw [if_neg (by simp [hck]), if_pos (by simp; omega)]
  have eR : rksR (spAt A) n = rkR (spAt A) n := by unfold rksR; rw [if_pos hck]
  have lR := rkR_len (l := spAt A) (n := n)
  have rR := fun i (hi : i < n) => rkR_at (l := spAt A) (n := n) hi
  have lC : (canF (rkS (spAt A) n) ((a + 1 : Nat) : Int) n).length ≤ n := filt_len
  have lD : (sureF (rkS (spAt A) n) ((a + 1 : Nat) : Int) n).length ≤ n := filt_len
  have c0 : canF (rkS (spAt A) n) ((a + 1 : Nat) : Int) 0 = [] := rfl
  have d0 : sureF (rkS (spAt A) n) ((a + 1 : Nat) : Int) 0 = [] := rfl
  have a17 := k17 1 0 n n (h := .cells cs 2 true own :: spB A :: .cells [] 1 true true :: lsB 4 M :: M.map nB) rfl sA n60
  rw [eR, lR, hck, show (.cells cs 2 true own :: spB A :: .cells [] 1 true true :: lsB 4 M :: M.map nB).length = M.length + 4 by simp] at a17
  have a19 := k19 1 0 n n ((a + 1 : Nat) : Int) (h := .cells cs 2 true own :: spB A :: .cells [] 1 true true :: lsB 4 M :: (M.map nB ++ [spB (rkR (spAt A) n)])) rfl sA n60
  rw [eC, eD, eE, show (.cells cs 2 true own :: spB A :: .cells [] 1 true true :: lsB 4 M :: (M.map nB ++ [spB (rkR (spAt A) n)])).length = M.length + 5 by simp] at a19
  have lp := fun c1 c2 g B3 B4 h3 h4 => l8a (.cells cs 2 true own) (B1 := spB A) (B3 := B3) (B4 := B4) noIdB_flat h3 h4 hk5 hN lR rR n5 (show a + 1 ≤ n by omega) hO F1 F2 F3 c1 c2 g n 0 (by omega)
  generalize rkR (spAt A) n = R at *
  generalize hCe : canF (rkS (spAt A) n) ((a + 1 : Nat) : Int) n = C at *
  generalize hDe : sureF (rkS (spAt A) n) ((a + 1 : Nat) : Int) n = D at *
  have a29 := k29 1 0 n n (h := .cells cs 2 true own :: spB A :: .cells [] 1 true true :: lsB 4 M :: (M.map nB ++ [spB R, nB C, nB D])) rfl sA n60 (fun _ => by omega) ((a + 1 : Nat) : Int)
  rw [q1, q2] at a29
  have tl := t118 (.cells cs 2 true own) hk5 n5 hO2 (show a + 1 ≤ n by omega) (C := C) (D := D) (by omega) (by omega)
  have lp2 := lp C.length D.length (kL (a + 1) M []).length (nB C) (nB D) noIdB_flat noIdB_flat
  rw [c0, d0] at lp2
  have s0 := sweep_pre (base := 1) (H := .cells cs 2 true own :: spB A :: .cells [] 1 true true :: lsB 4 M :: (M.map nB ++ [spB R, nB C, nB D, nB [], nB []])) (M := M) (N := 3) (p := 4) [1, M.length + 4, M.length + 5, M.length + 6, M.length + 7, M.length + 8] [spB A, spB R, nB C, nB D, nB [], nB []] []
    (σ := [(5, sl 1 0 n n), (6, iv ((a : Int) + 1)), (8, sl (M.length + 4) 0 n n), (10, sl (M.length + 5) 0 C.length C.length), (11, sl (M.length + 6) 0 D.length D.length), (13, iv (kL (a + 1) M []).length), (15, sl (M.length + 7) 0 0 0), (16, sl (M.length + 8) 0 0 0), (79, iv n), (80, iv 0), (7, sl 3 0 M.length M.length)])
    (σ' := [(5, sl 1 0 n n), (6, iv ((a : Int) + 1)), (8, sl 2 0 n n), (10, sl 3 0 C.length C.length), (11, sl 4 0 D.length D.length), (13, iv (kL (a + 1) M []).length), (15, sl 5 0 0 0), (16, sl 6 0 0 0), (79, iv n), (80, iv 0), (7, sl 7 0 M.length M.length)])
    (by
      simp only [List.map_cons, List.map_nil, List.getElem?_cons_succ]
      simp only [List.getElem?_cons_zero, List.cons.injEq, true_and, and_true]
      refine ⟨?_, ?_, ?_, ?_, ?_⟩ <;> (rw [List.getElem?_append_right (by simp)]; simp))
    (fun blk hb => by simp only [List.mem_cons, List.not_mem_nil, or_false] at hb; rcases hb with rfl | rfl | rfl | rfl | rfl | rfl <;> exact noIdB_flat) (by simp) (fun b hb => by simp only [List.mem_cons, List.not_mem_nil, or_false] at hb; omega) rfl (fun j O hj => by
      rw [show 4 + j = j + 1 + 1 + 1 + 1 by omega]
      simp only [List.getElem?_cons_succ]
      exact map_left hj) (by omega) (by omega) (by omega) (by omega) (by simp) (by simp) rfl (by simp) (fun f h1 h2 h3 => by
      have i0 := h1 0 _ rfl
      have i1 := h1 1 _ rfl
      have i2 := h1 2 _ rfl
      have i3 := h1 3 _ rfl
      have i4 := h1 4 _ rfl
      have i5 := h1 5 _ rfl
      simp [renT, renV_sl, renV_int, dep, i0, i1, i2, i3, i4, i5, h2])
  have hQ : (M.map nB).length = M.length := by simp
  have nn : ∀ a b : Nat, M.length + a + b = M.length + (a + b) := fun a b => Nat.add_assoc _ a b
  have ka : (1 : Int) + (a : Int) = (a : Int) + 1 := by omega
  clear sA h0 hM glo hbd hc hck lp F1 F2 F3 hO hO2 q1 q2 eC eD eE eR lR rR c0 d0
  simp only [cast1] at a19 a29 lp2 tl
  simp only [spB, lsB, nB, nm_nil, List.length_nil, List.cons_append, List.nil_append, List.append_assoc, List.length_cons, Nat.reduceAdd, Int.natCast_zero, List.take_succ_cons, List.take_zero, List.length_singleton] at a35 a36 a17 a19 a29 s0 lp2 tl hQ ⊢
  generalize M.map (fun L => Blk.cells (nm L) 1 true true) = Q at *
  generalize slS 4 M = X at *
  generalize slS 8 M = Y at *
  generalize slS 6 M = Z at *
  generalize A.flatMap spG = N at *
  generalize R.flatMap spG = N2 at *
  generalize (kL (a + 1) M []).length = gg at *
  generalize M.length = k at *
  refine go (by decide) ?_
  rw [run8 _ _ _ (by simp)]
  simp (maxSteps := 1000000) (disch := first | omega | decide | assumption | simp [scal]) [o_convI cv_5_3, lenA_sl lk_22, lenA_sl lk_49, o_indexAddrS es_49, loadA_eq ia_24, lenA_sl lk_24, o_indexAddrS es_24, loadA_eq ia_3, o_indexAddrS es_22, loadA_eq ia_55, za_55, o_build za_55 pl_55, o_sliceS sl_24, ze_24, o_buildSlice es_24 ze_24 (by decide) ba_24_1, ap_24, builtin_append ni_24, want_some q8_16g2, want_some q8_16g6, want_some q8_16g10, want_some q8_157g3, want_some q8_157g8, want_some q8_157g14, -sweep_eq, -n8_118s, a35, a36, a17, a19, a29, ta, hne, an, ka, hQ, nn, s0, lp2, tl]
end
end Go.Proofs.Ytfccmddkblbeoaa.rk
