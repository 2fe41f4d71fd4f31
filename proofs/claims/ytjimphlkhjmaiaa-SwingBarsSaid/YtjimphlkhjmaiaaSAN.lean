/-
  Names for the nodes of the code of some functions (projections of their bodies), the step of each node, and the facts of types that they use.
-/
import Derived.Test.YtjimphlkhjmaiaaKp
namespace Go.Proofs.Ytjimphlkhjmaiaa.sw
open Go.GE
set_option maxRecDepth 100000
variable (E : Ev) (cx : Cx) (st : St) (f nt b : Nat) (ro : Option Nat)
noncomputable def n10_0 : Code := bodyOf Try.f10
noncomputable def n10_1 : Code := cl n10_0
noncomputable def q10_1 : List Oper := opsOf n10_1
noncomputable def n10_2 : Code := cr n10_0
noncomputable def n10_3 : Code := cl n10_2
noncomputable def q10_3 : List Oper := opsOf n10_3
noncomputable def n10_4 : Code := cr n10_2
noncomputable def n10_5 : Code := cl n10_4
noncomputable def q10_5 : List Oper := opsOf n10_5
noncomputable def n10_6 : Code := cr n10_4
noncomputable def n10_7 : Code := cl n10_6
noncomputable def n10_8 : Code := cl n10_7
noncomputable def q10_8 : List Oper := opsOf n10_8
noncomputable def n10_9 : Code := cr n10_7
noncomputable def n10_10 : Code := cl n10_9
noncomputable def n10_11 : Code := cl n10_10
noncomputable def n10_12 : Code := cl n10_11
noncomputable def n10_13 : Code := cl n10_12
noncomputable def q10_13 : List Oper := opsOf n10_13
noncomputable def n10_14 : Code := cr n10_12
noncomputable def n10_15 : Code := cl n10_14
noncomputable def n10_16 : Code := cr n10_14
noncomputable def n10_17 : Code := cr n10_11
noncomputable def n10_18 : Code := cl n10_17
noncomputable def n10_19 : Code := cl n10_18
noncomputable def n10_20 : Code := cl n10_19
noncomputable def q10_20 : List Oper := opsOf n10_20
noncomputable def n10_21 : Code := cr n10_19
noncomputable def n10_22 : Code := cl n10_21
noncomputable def n10_23 : Code := cl n10_22
noncomputable def q10_23 : List Oper := opsOf n10_23
noncomputable def n10_24 : Code := cr n10_22
noncomputable def n10_25 : Code := cl n10_24
noncomputable def n10_26 : Code := cl n10_25
noncomputable def q10_26 : List Oper := opsOf n10_26
noncomputable def n10_27 : Code := cr n10_25
noncomputable def n10_28 : Code := cr n10_24
noncomputable def n10_29 : Code := cr n10_21
noncomputable def n10_30 : Code := cl n10_29
noncomputable def n10_31 : Code := cl n10_30
noncomputable def q10_31 : List Oper := opsOf n10_31
noncomputable def n10_32 : Code := cr n10_30
noncomputable def n10_33 : Code := cl n10_32
noncomputable def n10_34 : Code := cl n10_33
noncomputable def n10_35 : Code := cl n10_34
noncomputable def q10_35 : List Oper := opsOf n10_35
noncomputable def n10_36 : Code := cr n10_34
noncomputable def n10_37 : Code := cl n10_36
noncomputable def n10_38 : Code := cl n10_37
noncomputable def n10_39 : Code := cr n10_37
noncomputable def n10_40 : Code := cr n10_36
noncomputable def n10_41 : Code := cl n10_40
noncomputable def n10_42 : Code := cl n10_41
noncomputable def n10_43 : Code := cl n10_42
noncomputable def q10_43 : List Oper := opsOf n10_43
noncomputable def n10_44 : Code := cr n10_42
noncomputable def n10_45 : Code := cl n10_44
noncomputable def q10_45 : List Oper := opsOf n10_45
noncomputable def n10_46 : Code := cr n10_44
noncomputable def n10_47 : Code := cl n10_46
noncomputable def n10_48 : Code := cl n10_47
noncomputable def q10_48 : List Oper := opsOf n10_48
noncomputable def n10_49 : Code := cr n10_47
noncomputable def n10_50 : Code := cr n10_46
noncomputable def n10_51 : Code := cr n10_40
noncomputable def q10_51 : List Oper := opsOf n10_51
noncomputable def n10_52 : Code := cr n10_29
noncomputable def n10_53 : Code := cl n10_52
noncomputable def q10_53 : List Oper := opsOf n10_53
noncomputable def n10_54 : Code := cr n10_52
noncomputable def n10_55 : Code := cl n10_54
noncomputable def q10_55 : List Oper := opsOf n10_55
noncomputable def n10_56 : Code := cr n10_54
noncomputable def n10_57 : Code := cr n10_17
noncomputable def q10_57 : List Oper := opsOf n10_57
noncomputable def n10_58 : Code := cr n10_6
noncomputable def n10_59 : Code := cl n10_58
noncomputable def q10_59 : List Oper := opsOf n10_59
noncomputable def n10_60 : Code := cr n10_58
theorem body10 : Try.f10.body = some n10_0 := by kernel_rfl
theorem run10 (E : Ev) (args : List Value) (h : List Blk) (hl : args.length ≤ 78) : runB Try.prog E 10 args h = endS Try.prog [.tmp 2] h.length (codeB Try.prog E ⟨10, 78, h.length, none⟩ n10_0 ⟨enumT 0 args, h, []⟩) := GE.run_step Try.func10 body10 (by kernel_rfl) (by decide) (by kernel_rfl) hl
theorem n10_1s : codeB Try.prog E ⟨f, 78, b, ro⟩ n10_1 st = plainS (runOps Try.prog E b q10_1 (ops [false] Try.f10) st) := GE.region_step (id := 0) (GE.reg_of (by kernel_rfl)) (by kernel_rfl)
theorem n10_3s : codeB Try.prog E ⟨f, 78, b, ro⟩ n10_3 st = plainS (runOps Try.prog E b q10_3 (ops [true, false] Try.f10) st) := GE.region_step (id := 1) (GE.reg_of (by kernel_rfl)) (by kernel_rfl)
theorem n10_5s : codeB Try.prog E ⟨f, 78, b, ro⟩ n10_5 st = plainS (runOps Try.prog E b q10_5 (ops [true, true, false] Try.f10) st) := GE.region_step (id := 2) (GE.reg_of (by kernel_rfl)) (by kernel_rfl)
theorem n10_8s : codeB Try.prog E ⟨f, 78, b, ro⟩ n10_8 st = plainS (runOps Try.prog E b q10_8 (ops [true, true, true, false, false] Try.f10) st) := GE.region_step (id := 3) (GE.reg_of (by kernel_rfl)) (by kernel_rfl)
theorem n10_13s : codeB Try.prog E ⟨f, 78, b, ro⟩ n10_13 st = plainS (runOps Try.prog E b q10_13 (ops [true, true, true, false, true, false, false, false, false] Try.f10) st) := GE.region_step (id := 4) (GE.reg_of (by kernel_rfl)) (by kernel_rfl)
theorem n10_15s : codeB Try.prog E cx n10_15 st = some (.normal, st) := GE.skip_step (by kernel_rfl)
theorem n10_16s : codeB Try.prog LL ⟨10, 78, b, ro⟩ n10_16 st = normS b ⟨[3, 4], []⟩ (.exit 0) st := GE.exit_step (by kernel_rfl) (by kernel_rfl)
theorem n10_14s : codeB Try.prog E cx n10_14 st = condS (codeB Try.prog E cx n10_15) (codeB Try.prog E cx n10_16) (lk st.σ 16) st := GE.cond_step (c := .tmp 16) (by kernel_rfl)
theorem n10_12s : codeB Try.prog E cx n10_12 st = thenS (codeB Try.prog E cx n10_13 st) (codeB Try.prog E cx n10_14) := GE.seq_step (by kernel_rfl)
theorem n10_20s : codeB Try.prog E ⟨f, 78, b, ro⟩ n10_20 st = plainS (runOps Try.prog E b q10_20 (ops [true, true, true, false, true, false, false, true, false, false, false] Try.f10) st) := GE.region_step (id := 6) (GE.reg_of (by kernel_rfl)) (by kernel_rfl)
theorem n10_23s : codeB Try.prog E ⟨f, 78, b, ro⟩ n10_23 st = plainS (runOps Try.prog E b q10_23 (ops [true, true, true, false, true, false, false, true, false, false, true, false, false] Try.f10) st) := GE.region_step (id := 7) (GE.reg_of (by kernel_rfl)) (by kernel_rfl)
theorem n10_26s : codeB Try.prog E ⟨f, 78, b, ro⟩ n10_26 st = plainS (runOps Try.prog E b q10_26 (ops [true, true, true, false, true, false, false, true, false, false, true, false, true, false, false] Try.f10) st) := GE.region_step (id := 8) (GE.reg_of (by kernel_rfl)) (by kernel_rfl)
theorem n10_27s : codeB Try.prog LL ⟨10, 78, b, ro⟩ n10_27 st = normS b ⟨[2], []⟩ .ret st := GE.ret_step (by kernel_rfl) (by kernel_rfl)
theorem n10_25s : codeB Try.prog E cx n10_25 st = thenS (codeB Try.prog E cx n10_26 st) (codeB Try.prog E cx n10_27) := GE.seq_step (by kernel_rfl)
theorem n10_28s : codeB Try.prog E cx n10_28 st = some (.normal, st) := GE.skip_step (by kernel_rfl)
theorem n10_24s : codeB Try.prog E cx n10_24 st = condS (codeB Try.prog E cx n10_25) (codeB Try.prog E cx n10_28) (lk st.σ 25) st := GE.cond_step (c := .tmp 25) (by kernel_rfl)
theorem n10_22s : codeB Try.prog E cx n10_22 st = thenS (codeB Try.prog E cx n10_23 st) (codeB Try.prog E cx n10_24) := GE.seq_step (by kernel_rfl)
theorem n10_31s : codeB Try.prog E ⟨f, 78, b, ro⟩ n10_31 st = plainS (runOps Try.prog E b q10_31 (ops [true, true, true, false, true, false, false, true, false, false, true, true, false, false] Try.f10) st) := GE.region_step (id := 9) (GE.reg_of (by kernel_rfl)) (by kernel_rfl)
theorem n10_35s : codeB Try.prog E ⟨f, 78, b, ro⟩ n10_35 st = plainS (runOps Try.prog E b q10_35 (ops [true, true, true, false, true, false, false, true, false, false, true, true, false, true, false, false, false] Try.f10) st) := GE.region_step (id := 10) (GE.reg_of (by kernel_rfl)) (by kernel_rfl)
theorem n10_38s : codeB Try.prog E cx n10_38 st = some (.normal, st) := GE.skip_step (by kernel_rfl)
theorem n10_39s : codeB Try.prog LL ⟨10, 78, b, ro⟩ n10_39 st = normS b ⟨[6, 3, 4, 5], [⟨6, 0, 1, true⟩]⟩ (.exit 2) st := GE.exit_step (by kernel_rfl) (by kernel_rfl)
theorem n10_37s : codeB Try.prog E cx n10_37 st = condS (codeB Try.prog E cx n10_38) (codeB Try.prog E cx n10_39) (lk st.σ 29) st := GE.cond_step (c := .tmp 29) (by kernel_rfl)
theorem n10_43s : codeB Try.prog E ⟨f, 78, b, ro⟩ n10_43 st = plainS (runOps Try.prog E b q10_43 (ops [true, true, true, false, true, false, false, true, false, false, true, true, false, true, false, false, true, true, false, false, false] Try.f10) st) := GE.region_step (id := 11) (GE.reg_of (by kernel_rfl)) (by kernel_rfl)
theorem q10_45g4 : gd q10_45 4 = some 37 := by kernel_rfl
theorem q10_45g9 : gd q10_45 9 = some 42 := by kernel_rfl
theorem q10_45g12 : gd q10_45 12 = some 45 := by kernel_rfl
theorem q10_45g22 : gd q10_45 22 = some 55 := by kernel_rfl
theorem n10_45s : codeB Try.prog E ⟨f, 78, b, ro⟩ n10_45 st = plainS (runOps Try.prog E b q10_45 (ops [true, true, true, false, true, false, false, true, false, false, true, true, false, true, false, false, true, true, false, false, true, false] Try.f10) st) := GE.region_step (id := 12) (GE.reg_of (by kernel_rfl)) (by kernel_rfl)
theorem n10_48s : codeB Try.prog E ⟨f, 78, b, ro⟩ n10_48 st = plainS (runOps Try.prog E b q10_48 (ops [true, true, true, false, true, false, false, true, false, false, true, true, false, true, false, false, true, true, false, false, true, true, false, false] Try.f10) st) := GE.region_step (id := 13) (GE.reg_of (by kernel_rfl)) (by kernel_rfl)
theorem n10_49s : codeB Try.prog LL ⟨10, 78, b, ro⟩ n10_49 st = normS b ⟨[2], []⟩ .ret st := GE.ret_step (by kernel_rfl) (by kernel_rfl)
theorem n10_47s : codeB Try.prog E cx n10_47 st = thenS (codeB Try.prog E cx n10_48 st) (codeB Try.prog E cx n10_49) := GE.seq_step (by kernel_rfl)
theorem n10_50s : codeB Try.prog E cx n10_50 st = some (.normal, st) := GE.skip_step (by kernel_rfl)
theorem n10_46s : codeB Try.prog E cx n10_46 st = condS (codeB Try.prog E cx n10_47) (codeB Try.prog E cx n10_50) (lk st.σ 59) st := GE.cond_step (c := .tmp 59) (by kernel_rfl)
theorem n10_44s : codeB Try.prog E cx n10_44 st = thenS (codeB Try.prog E cx n10_45 st) (codeB Try.prog E cx n10_46) := GE.seq_step (by kernel_rfl)
theorem n10_42s : codeB Try.prog E cx n10_42 st = thenS (codeB Try.prog E cx n10_43 st) (codeB Try.prog E cx n10_44) := GE.seq_step (by kernel_rfl)
theorem n10_41s : codeB Try.prog E cx n10_41 st = blockS 3 (codeB Try.prog E cx n10_42 st) st := GE.block_step (by kernel_rfl)
theorem n10_51s : codeB Try.prog E ⟨f, 78, b, ro⟩ n10_51 st = plainS (runOps Try.prog E b q10_51 (ops [true, true, true, false, true, false, false, true, false, false, true, true, false, true, false, false, true, true, true] Try.f10) st) := GE.region_step (id := 14) (GE.reg_of (by kernel_rfl)) (by kernel_rfl)
theorem n10_40s : codeB Try.prog E cx n10_40 st = thenS (codeB Try.prog E cx n10_41 st) (codeB Try.prog E cx n10_51) := GE.seq_step (by kernel_rfl)
theorem n10_36s : codeB Try.prog E cx n10_36 st = thenS (codeB Try.prog E cx n10_37 st) (codeB Try.prog E cx n10_40) := GE.seq_step (by kernel_rfl)
theorem n10_34s : codeB Try.prog E cx n10_34 st = thenS (codeB Try.prog E cx n10_35 st) (codeB Try.prog E cx n10_36) := GE.seq_step (by kernel_rfl)
theorem n10_33k : LL.kp (⟨10, 78, b, ro⟩ : Cx).fn (4 * rid n10_34 + 3) = some ⟨[6, 26, 27, 28, 3, 4, 5], [⟨6, 0, 1, true⟩, ⟨26, 0, 1, true⟩]⟩ := by kernel_rfl
theorem n10_33s : codeB Try.prog LL ⟨10, 78, b, ro⟩ n10_33 st = headS b ⟨[6, 26, 27, 28, 3, 4, 5], [⟨6, 0, 1, true⟩, ⟨26, 0, 1, true⟩]⟩ st (lpB Try.prog LL ⟨10, 78, b, ro⟩ n10_33 n10_34) := GE.lpB_step (by kernel_rfl) (n10_33k b ro)
theorem n10_33g : LL.code ⟨10, 78, b, ro⟩ n10_33 st = headS b ⟨[6, 26, 27, 28, 3, 4, 5], [⟨6, 0, 1, true⟩, ⟨26, 0, 1, true⟩]⟩ st (lpB Try.prog LL ⟨10, 78, b, ro⟩ n10_33 n10_34) := GE.lpB_again (by kernel_rfl) (n10_33k b ro)
theorem n10_32s : codeB Try.prog E cx n10_32 st = blockS 2 (codeB Try.prog E cx n10_33 st) st := GE.block_step (by kernel_rfl)
theorem n10_30s : codeB Try.prog E cx n10_30 st = thenS (codeB Try.prog E cx n10_31 st) (codeB Try.prog E cx n10_32) := GE.seq_step (by kernel_rfl)
theorem n10_53s : codeB Try.prog E ⟨f, 78, b, ro⟩ n10_53 st = plainS (runOps Try.prog E b q10_53 (ops [true, true, true, false, true, false, false, true, false, false, true, true, true, false] Try.f10) st) := GE.region_step (id := 15) (GE.reg_of (by kernel_rfl)) (by kernel_rfl)
theorem n10_55s : codeB Try.prog E ⟨f, 78, b, ro⟩ n10_55 st = plainS (runOps Try.prog E b q10_55 (ops [true, true, true, false, true, false, false, true, false, false, true, true, true, true, false] Try.f10) st) := GE.region_step (id := 16) (GE.reg_of (by kernel_rfl)) (by kernel_rfl)
theorem n10_56s : codeB Try.prog E cx n10_56 st = some (.normal, st) := GE.skip_step (by kernel_rfl)
theorem n10_54s : codeB Try.prog E cx n10_54 st = condS (codeB Try.prog E cx n10_55) (codeB Try.prog E cx n10_56) (lk st.σ 64) st := GE.cond_step (c := .tmp 64) (by kernel_rfl)
theorem n10_52s : codeB Try.prog E cx n10_52 st = thenS (codeB Try.prog E cx n10_53 st) (codeB Try.prog E cx n10_54) := GE.seq_step (by kernel_rfl)
theorem n10_29s : codeB Try.prog E cx n10_29 st = thenS (codeB Try.prog E cx n10_30 st) (codeB Try.prog E cx n10_52) := GE.seq_step (by kernel_rfl)
theorem n10_21s : codeB Try.prog E cx n10_21 st = thenS (codeB Try.prog E cx n10_22 st) (codeB Try.prog E cx n10_29) := GE.seq_step (by kernel_rfl)
theorem n10_19s : codeB Try.prog E cx n10_19 st = thenS (codeB Try.prog E cx n10_20 st) (codeB Try.prog E cx n10_21) := GE.seq_step (by kernel_rfl)
theorem n10_18s : codeB Try.prog E cx n10_18 st = blockS 1 (codeB Try.prog E cx n10_19 st) st := GE.block_step (by kernel_rfl)
theorem n10_57s : codeB Try.prog E ⟨f, 78, b, ro⟩ n10_57 st = plainS (runOps Try.prog E b q10_57 (ops [true, true, true, false, true, false, false, true, true] Try.f10) st) := GE.region_step (id := 5) (GE.reg_of (by kernel_rfl)) (by kernel_rfl)
theorem n10_17s : codeB Try.prog E cx n10_17 st = thenS (codeB Try.prog E cx n10_18 st) (codeB Try.prog E cx n10_57) := GE.seq_step (by kernel_rfl)
theorem n10_11s : codeB Try.prog E cx n10_11 st = thenS (codeB Try.prog E cx n10_12 st) (codeB Try.prog E cx n10_17) := GE.seq_step (by kernel_rfl)
theorem n10_10k : LL.kp (⟨10, 78, b, ro⟩ : Cx).fn (4 * rid n10_11 + 3) = some ⟨[3, 4, 5], []⟩ := by kernel_rfl
theorem n10_10s : codeB Try.prog LL ⟨10, 78, b, ro⟩ n10_10 st = headS b ⟨[3, 4, 5], []⟩ st (lpB Try.prog LL ⟨10, 78, b, ro⟩ n10_10 n10_11) := GE.lpB_step (by kernel_rfl) (n10_10k b ro)
theorem n10_10g : LL.code ⟨10, 78, b, ro⟩ n10_10 st = headS b ⟨[3, 4, 5], []⟩ st (lpB Try.prog LL ⟨10, 78, b, ro⟩ n10_10 n10_11) := GE.lpB_again (by kernel_rfl) (n10_10k b ro)
theorem n10_9s : codeB Try.prog E cx n10_9 st = blockS 0 (codeB Try.prog E cx n10_10 st) st := GE.block_step (by kernel_rfl)
theorem n10_7s : codeB Try.prog E cx n10_7 st = thenS (codeB Try.prog E cx n10_8 st) (codeB Try.prog E cx n10_9) := GE.seq_step (by kernel_rfl)
theorem q10_59g4 : gd q10_59 4 = some 75 := by kernel_rfl
theorem n10_59s : codeB Try.prog E ⟨f, 78, b, ro⟩ n10_59 st = plainS (runOps Try.prog E b q10_59 (ops [true, true, true, true, false] Try.f10) st) := GE.region_step (id := 17) (GE.reg_of (by kernel_rfl)) (by kernel_rfl)
theorem n10_60s : codeB Try.prog LL ⟨10, 78, b, ro⟩ n10_60 st = normS b ⟨[2], []⟩ .ret st := GE.ret_step (by kernel_rfl) (by kernel_rfl)
theorem n10_58s : codeB Try.prog E cx n10_58 st = thenS (codeB Try.prog E cx n10_59 st) (codeB Try.prog E cx n10_60) := GE.seq_step (by kernel_rfl)
theorem n10_6s : codeB Try.prog E cx n10_6 st = thenS (codeB Try.prog E cx n10_7 st) (codeB Try.prog E cx n10_58) := GE.seq_step (by kernel_rfl)
theorem n10_4s : codeB Try.prog E cx n10_4 st = thenS (codeB Try.prog E cx n10_5 st) (codeB Try.prog E cx n10_6) := GE.seq_step (by kernel_rfl)
theorem n10_2s : codeB Try.prog E cx n10_2 st = thenS (codeB Try.prog E cx n10_3 st) (codeB Try.prog E cx n10_4) := GE.seq_step (by kernel_rfl)
theorem n10_0s : codeB Try.prog E cx n10_0 st = thenS (codeB Try.prog E cx n10_1 st) (codeB Try.prog E cx n10_2) := GE.seq_step (by kernel_rfl)
theorem cv_5_3 : convK Try.prog 5 3 = some .i64 := by kernel_rfl
theorem lk_26 : lenK Try.prog 26 = some .sl := by kernel_rfl
theorem es_26 : elemK Try.prog 26 = some (none, 1) := by kernel_rfl
theorem ia_9 : aggK Try.prog 9 = some (false, 1) := by kernel_rfl

end Go.Proofs.Ytjimphlkhjmaiaa.sw
