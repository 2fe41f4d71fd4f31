/-
  Names for the nodes of the code of some functions (projections of their bodies), the step of each node, and the facts of types that they use.
-/
import Derived.Test.YtfccmddkblbeoaaKp
namespace Go.Proofs.Ytfccmddkblbeoaa.rk
open Go.GE
set_option maxRecDepth 100000
variable (E : Ev) (cx : Cx) (st : St) (f nt b : Nat) (ro : Option Nat)
noncomputable def n7_0 : Code := bodyOf Try.f7
noncomputable def n7_1 : Code := cl n7_0
noncomputable def q7_1 : List Oper := opsOf n7_1
noncomputable def n7_2 : Code := cr n7_0
noncomputable def n7_3 : Code := cl n7_2
noncomputable def q7_3 : List Oper := opsOf n7_3
noncomputable def n7_4 : Code := cr n7_2
noncomputable def n7_5 : Code := cl n7_4
noncomputable def q7_5 : List Oper := opsOf n7_5
noncomputable def n7_6 : Code := cr n7_4
noncomputable def n7_7 : Code := cl n7_6
noncomputable def q7_7 : List Oper := opsOf n7_7
noncomputable def n7_8 : Code := cr n7_6
noncomputable def n7_9 : Code := cl n7_8
noncomputable def n7_10 : Code := cl n7_9
noncomputable def q7_10 : List Oper := opsOf n7_10
noncomputable def n7_11 : Code := cr n7_9
noncomputable def n7_12 : Code := cl n7_11
noncomputable def n7_13 : Code := cl n7_12
noncomputable def n7_14 : Code := cl n7_13
noncomputable def q7_14 : List Oper := opsOf n7_14
noncomputable def n7_15 : Code := cr n7_13
noncomputable def n7_16 : Code := cl n7_15
noncomputable def n7_17 : Code := cl n7_16
noncomputable def n7_18 : Code := cr n7_16
noncomputable def n7_19 : Code := cr n7_15
noncomputable def n7_20 : Code := cl n7_19
noncomputable def n7_21 : Code := cl n7_20
noncomputable def n7_22 : Code := cl n7_21
noncomputable def q7_22 : List Oper := opsOf n7_22
noncomputable def n7_23 : Code := cr n7_21
noncomputable def n7_24 : Code := cl n7_23
noncomputable def q7_24 : List Oper := opsOf n7_24
noncomputable def n7_25 : Code := cr n7_23
noncomputable def n7_26 : Code := cl n7_25
noncomputable def n7_27 : Code := cl n7_26
noncomputable def q7_27 : List Oper := opsOf n7_27
noncomputable def n7_28 : Code := cr n7_26
noncomputable def n7_29 : Code := cl n7_28
noncomputable def q7_29 : List Oper := opsOf n7_29
noncomputable def n7_30 : Code := cr n7_28
noncomputable def n7_31 : Code := cr n7_25
noncomputable def n7_32 : Code := cl n7_31
noncomputable def q7_32 : List Oper := opsOf n7_32
noncomputable def n7_33 : Code := cr n7_31
noncomputable def n7_34 : Code := cl n7_33
noncomputable def q7_34 : List Oper := opsOf n7_34
noncomputable def n7_35 : Code := cr n7_33
noncomputable def n7_36 : Code := cl n7_35
noncomputable def n7_37 : Code := cl n7_36
noncomputable def n7_38 : Code := cl n7_37
noncomputable def n7_39 : Code := cl n7_38
noncomputable def q7_39 : List Oper := opsOf n7_39
noncomputable def n7_40 : Code := cr n7_38
noncomputable def n7_41 : Code := cl n7_40
noncomputable def n7_42 : Code := cr n7_40
noncomputable def n7_43 : Code := cr n7_37
noncomputable def n7_44 : Code := cl n7_43
noncomputable def n7_45 : Code := cl n7_44
noncomputable def q7_45 : List Oper := opsOf n7_45
noncomputable def n7_46 : Code := cr n7_43
noncomputable def q7_46 : List Oper := opsOf n7_46
noncomputable def n7_47 : Code := cr n7_19
noncomputable def q7_47 : List Oper := opsOf n7_47
noncomputable def n7_48 : Code := cr n7_8
noncomputable def n7_49 : Code := cl n7_48
noncomputable def q7_49 : List Oper := opsOf n7_49
noncomputable def n7_50 : Code := cr n7_48
noncomputable def n7_51 : Code := cl n7_50
noncomputable def q7_51 : List Oper := opsOf n7_51
noncomputable def n7_52 : Code := cr n7_50
noncomputable def n7_53 : Code := cl n7_52
noncomputable def q7_53 : List Oper := opsOf n7_53
noncomputable def n7_54 : Code := cr n7_52
noncomputable def n7_55 : Code := cl n7_54
noncomputable def n7_56 : Code := cl n7_55
noncomputable def q7_56 : List Oper := opsOf n7_56
noncomputable def n7_57 : Code := cr n7_55
noncomputable def n7_58 : Code := cl n7_57
noncomputable def n7_59 : Code := cl n7_58
noncomputable def q7_59 : List Oper := opsOf n7_59
noncomputable def n7_60 : Code := cr n7_58
noncomputable def n7_61 : Code := cr n7_57
noncomputable def n7_62 : Code := cr n7_54
noncomputable def n7_63 : Code := cl n7_62
noncomputable def n7_64 : Code := cl n7_63
noncomputable def q7_64 : List Oper := opsOf n7_64
noncomputable def n7_65 : Code := cr n7_63
noncomputable def n7_66 : Code := cl n7_65
noncomputable def n7_67 : Code := cl n7_66
noncomputable def n7_68 : Code := cl n7_67
noncomputable def q7_68 : List Oper := opsOf n7_68
noncomputable def n7_69 : Code := cr n7_67
noncomputable def n7_70 : Code := cl n7_69
noncomputable def n7_71 : Code := cl n7_70
noncomputable def n7_72 : Code := cr n7_70
noncomputable def n7_73 : Code := cr n7_69
noncomputable def n7_74 : Code := cl n7_73
noncomputable def n7_75 : Code := cl n7_74
noncomputable def n7_76 : Code := cl n7_75
noncomputable def q7_76 : List Oper := opsOf n7_76
noncomputable def n7_77 : Code := cr n7_75
noncomputable def n7_78 : Code := cl n7_77
noncomputable def q7_78 : List Oper := opsOf n7_78
noncomputable def n7_79 : Code := cr n7_77
noncomputable def n7_80 : Code := cl n7_79
noncomputable def n7_81 : Code := cl n7_80
noncomputable def q7_81 : List Oper := opsOf n7_81
noncomputable def n7_82 : Code := cr n7_80
noncomputable def n7_83 : Code := cr n7_79
noncomputable def n7_84 : Code := cr n7_73
noncomputable def q7_84 : List Oper := opsOf n7_84
noncomputable def n7_85 : Code := cr n7_62
noncomputable def n7_86 : Code := cl n7_85
noncomputable def q7_86 : List Oper := opsOf n7_86
noncomputable def n7_87 : Code := cr n7_85
theorem body7 : Try.f7.body = some n7_0 := by kernel_rfl
theorem run7 (E : Ev) (args : List Value) (h : List Blk) (hl : args.length ≤ 191) : runB Try.prog E 7 args h = endS Try.prog [.tmp 6] h.length (codeB Try.prog E ⟨7, 191, h.length, none⟩ n7_0 ⟨enumT 0 args, h, []⟩) := GE.run_step Try.func7 body7 (by kernel_rfl) (by decide) (by kernel_rfl) hl
theorem n7_1s : codeB Try.prog E ⟨f, 191, b, ro⟩ n7_1 st = plainS (runOps Try.prog E b q7_1 (ops [false] Try.f7) st) := GE.region_step (id := 0) (GE.reg_of (by kernel_rfl)) (by kernel_rfl)
theorem n7_3s : codeB Try.prog E ⟨f, 191, b, ro⟩ n7_3 st = plainS (runOps Try.prog E b q7_3 (ops [true, false] Try.f7) st) := GE.region_step (id := 1) (GE.reg_of (by kernel_rfl)) (by kernel_rfl)
theorem n7_5s : codeB Try.prog E ⟨f, 191, b, ro⟩ n7_5 st = plainS (runOps Try.prog E b q7_5 (ops [true, true, false] Try.f7) st) := GE.region_step (id := 2) (GE.reg_of (by kernel_rfl)) (by kernel_rfl)
theorem n7_7s : codeB Try.prog E ⟨f, 191, b, ro⟩ n7_7 st = plainS (runOps Try.prog E b q7_7 (ops [true, true, true, false] Try.f7) st) := GE.region_step (id := 3) (GE.reg_of (by kernel_rfl)) (by kernel_rfl)
theorem n7_10s : codeB Try.prog E ⟨f, 191, b, ro⟩ n7_10 st = plainS (runOps Try.prog E b q7_10 (ops [true, true, true, true, false, false] Try.f7) st) := GE.region_step (id := 4) (GE.reg_of (by kernel_rfl)) (by kernel_rfl)
theorem n7_14s : codeB Try.prog E ⟨f, 191, b, ro⟩ n7_14 st = plainS (runOps Try.prog E b q7_14 (ops [true, true, true, true, false, true, false, false, false] Try.f7) st) := GE.region_step (id := 5) (GE.reg_of (by kernel_rfl)) (by kernel_rfl)
theorem n7_17s : codeB Try.prog E cx n7_17 st = some (.normal, st) := GE.skip_step (by kernel_rfl)
theorem n7_18s : codeB Try.prog LL ⟨7, 191, b, ro⟩ n7_18 st = normS b ⟨[2, 7, 9], [⟨7, 0, 2, true⟩, ⟨9, 0, 1, true⟩]⟩ (.exit 0) st := GE.exit_step (by kernel_rfl) (by kernel_rfl)
theorem n7_16s : codeB Try.prog E cx n7_16 st = condS (codeB Try.prog E cx n7_17) (codeB Try.prog E cx n7_18) (lk st.σ 29) st := GE.cond_step (c := .tmp 29) (by kernel_rfl)
theorem n7_22s : codeB Try.prog E ⟨f, 191, b, ro⟩ n7_22 st = plainS (runOps Try.prog E b q7_22 (ops [true, true, true, true, false, true, false, false, true, true, false, false, false] Try.f7) st) := GE.region_step (id := 6) (GE.reg_of (by kernel_rfl)) (by kernel_rfl)
theorem n7_24s : codeB Try.prog E ⟨f, 191, b, ro⟩ n7_24 st = plainS (runOps Try.prog E b q7_24 (ops [true, true, true, true, false, true, false, false, true, true, false, false, true, false] Try.f7) st) := GE.region_step (id := 7) (GE.reg_of (by kernel_rfl)) (by kernel_rfl)
theorem n7_27s : codeB Try.prog E ⟨f, 191, b, ro⟩ n7_27 st = plainS (runOps Try.prog E b q7_27 (ops [true, true, true, true, false, true, false, false, true, true, false, false, true, true, false, false] Try.f7) st) := GE.region_step (id := 8) (GE.reg_of (by kernel_rfl)) (by kernel_rfl)
theorem n7_29s : codeB Try.prog E ⟨f, 191, b, ro⟩ n7_29 st = drawS [0, 0, 3, 7, 0, 0, 48, 112, 240, 0, 512, 0, 2048, 7680, 15872, 32752, 65535, 131071, 262143] (runOpsF Try.prog E b q7_29 (ops [true, true, true, true, false, true, false, false, true, true, false, false, true, true, false, true, false] Try.f7) st) := GE.draw_step (id := 9) (GE.reg_of (by kernel_rfl)) (by kernel_rfl) (by kernel_rfl) (by kernel_rfl)
theorem n7_30s : codeB Try.prog E cx n7_30 st = some (.normal, st) := GE.skip_step (by kernel_rfl)
theorem n7_28s : codeB Try.prog E cx n7_28 st = condS (codeB Try.prog E cx n7_29) (codeB Try.prog E cx n7_30) (lk st.σ 41) st := GE.cond_step (c := .tmp 41) (by kernel_rfl)
theorem n7_26s : codeB Try.prog E cx n7_26 st = thenS (codeB Try.prog E cx n7_27 st) (codeB Try.prog E cx n7_28) := GE.seq_step (by kernel_rfl)
theorem n7_32s : codeB Try.prog E ⟨f, 191, b, ro⟩ n7_32 st = plainS (runOps Try.prog E b q7_32 (ops [true, true, true, true, false, true, false, false, true, true, false, false, true, true, true, false] Try.f7) st) := GE.region_step (id := 10) (GE.reg_of (by kernel_rfl)) (by kernel_rfl)
theorem n7_34s : codeB Try.prog E ⟨f, 191, b, ro⟩ n7_34 st = plainS (runOps Try.prog E b q7_34 (ops [true, true, true, true, false, true, false, false, true, true, false, false, true, true, true, true, false] Try.f7) st) := GE.region_step (id := 11) (GE.reg_of (by kernel_rfl)) (by kernel_rfl)
theorem q7_39g2 : gd q7_39 2 = some 69 := by kernel_rfl
theorem n7_39s : codeB Try.prog E ⟨f, 191, b, ro⟩ n7_39 st = drawS [0, 1, 3, 7, 7, 7, 55, 119, 255, 511, 7, 7, 7, 4103, 14343, 30727, 64519, 130055, 262143, 524287] (runOpsF Try.prog E b q7_39 (ops [true, true, true, true, false, true, false, false, true, true, false, false, true, true, true, true, true, false, false, false, false] Try.f7) st) := GE.draw_step (id := 12) (GE.reg_of (by kernel_rfl)) (by kernel_rfl) (by kernel_rfl) (by kernel_rfl)
theorem n7_41s : codeB Try.prog E cx n7_41 st = some (.normal, st) := GE.skip_step (by kernel_rfl)
theorem n7_42s : codeB Try.prog LL ⟨7, 191, b, ro⟩ n7_42 st = normS b ⟨[1, 2, 7, 8, 9, 26, 27, 28], [⟨1, 0, 1, true⟩, ⟨7, 0, 2, true⟩, ⟨8, 0, 1, true⟩, ⟨9, 0, 1, true⟩, ⟨26, 0, 2, true⟩]⟩ (.exit 2) st := GE.exit_step (by kernel_rfl) (by kernel_rfl)
theorem n7_40s : codeB Try.prog E cx n7_40 st = condS (codeB Try.prog E cx n7_41) (codeB Try.prog E cx n7_42) (lk st.σ 86) st := GE.cond_step (c := .tmp 86) (by kernel_rfl)
theorem n7_38s : codeB Try.prog E cx n7_38 st = thenS (codeB Try.prog E cx n7_39 st) (codeB Try.prog E cx n7_40) := GE.seq_step (by kernel_rfl)
theorem n7_45s : codeB Try.prog E ⟨f, 191, b, ro⟩ n7_45 st = drawS [0, 0, 0, 0, 8, 0, 0, 64, 224, 480, 0, 0, 3072, 7168, 16355, 32739, 65535, 131071] (runOpsF Try.prog E b q7_45 (ops [true, true, true, true, false, true, false, false, true, true, false, false, true, true, true, true, true, false, false, true, false, false] Try.f7) st) := GE.draw_step (id := 14) (GE.reg_of (by kernel_rfl)) (by kernel_rfl) (by kernel_rfl) (by kernel_rfl)
theorem n7_44s : codeB Try.prog E cx n7_44 st = blockS 3 (codeB Try.prog E cx n7_45 st) st := GE.block_step (by kernel_rfl)
theorem n7_46s : codeB Try.prog E ⟨f, 191, b, ro⟩ n7_46 st = plainS (runOps Try.prog E b q7_46 (ops [true, true, true, true, false, true, false, false, true, true, false, false, true, true, true, true, true, false, false, true, true] Try.f7) st) := GE.region_step (id := 13) (GE.reg_of (by kernel_rfl)) (by kernel_rfl)
theorem n7_43s : codeB Try.prog E cx n7_43 st = thenS (codeB Try.prog E cx n7_44 st) (codeB Try.prog E cx n7_46) := GE.seq_step (by kernel_rfl)
theorem n7_37s : codeB Try.prog E cx n7_37 st = thenS (codeB Try.prog E cx n7_38 st) (codeB Try.prog E cx n7_43) := GE.seq_step (by kernel_rfl)
theorem n7_36k : LL.kp (⟨7, 191, b, ro⟩ : Cx).fn (4 * rid n7_37 + 3) = some ⟨[12, 1, 2, 7, 8, 9, 26, 27, 28], [⟨1, 0, 1, true⟩, ⟨7, 0, 2, true⟩, ⟨8, 0, 1, true⟩, ⟨9, 0, 1, true⟩, ⟨26, 0, 2, true⟩]⟩ := by kernel_rfl
theorem n7_36s : codeB Try.prog LL ⟨7, 191, b, ro⟩ n7_36 st = headS b ⟨[12, 1, 2, 7, 8, 9, 26, 27, 28], [⟨1, 0, 1, true⟩, ⟨7, 0, 2, true⟩, ⟨8, 0, 1, true⟩, ⟨9, 0, 1, true⟩, ⟨26, 0, 2, true⟩]⟩ st (lpB Try.prog LL ⟨7, 191, b, ro⟩ n7_36 n7_37) := GE.lpB_step (by kernel_rfl) (n7_36k b ro)
theorem n7_36g : LL.code ⟨7, 191, b, ro⟩ n7_36 st = headS b ⟨[12, 1, 2, 7, 8, 9, 26, 27, 28], [⟨1, 0, 1, true⟩, ⟨7, 0, 2, true⟩, ⟨8, 0, 1, true⟩, ⟨9, 0, 1, true⟩, ⟨26, 0, 2, true⟩]⟩ st (lpB Try.prog LL ⟨7, 191, b, ro⟩ n7_36 n7_37) := GE.lpB_again (by kernel_rfl) (n7_36k b ro)
theorem n7_35s : codeB Try.prog E cx n7_35 st = blockS 2 (codeB Try.prog E cx n7_36 st) st := GE.block_step (by kernel_rfl)
theorem n7_33s : codeB Try.prog E cx n7_33 st = thenS (codeB Try.prog E cx n7_34 st) (codeB Try.prog E cx n7_35) := GE.seq_step (by kernel_rfl)
theorem n7_31s : codeB Try.prog E cx n7_31 st = thenS (codeB Try.prog E cx n7_32 st) (codeB Try.prog E cx n7_33) := GE.seq_step (by kernel_rfl)
theorem n7_25s : codeB Try.prog E cx n7_25 st = thenS (codeB Try.prog E cx n7_26 st) (codeB Try.prog E cx n7_31) := GE.seq_step (by kernel_rfl)
theorem n7_23s : codeB Try.prog E cx n7_23 st = thenS (codeB Try.prog E cx n7_24 st) (codeB Try.prog E cx n7_25) := GE.seq_step (by kernel_rfl)
theorem n7_21s : codeB Try.prog E cx n7_21 st = thenS (codeB Try.prog E cx n7_22 st) (codeB Try.prog E cx n7_23) := GE.seq_step (by kernel_rfl)
theorem n7_20s : codeB Try.prog E cx n7_20 st = blockS 1 (codeB Try.prog E cx n7_21 st) st := GE.block_step (by kernel_rfl)
theorem n7_47s : codeB Try.prog E ⟨f, 191, b, ro⟩ n7_47 st = plainS (runOps Try.prog E b q7_47 (ops [true, true, true, true, false, true, false, false, true, true, true] Try.f7) st) := GE.region_step (id := 15) (GE.reg_of (by kernel_rfl)) (by kernel_rfl)
theorem n7_19s : codeB Try.prog E cx n7_19 st = thenS (codeB Try.prog E cx n7_20 st) (codeB Try.prog E cx n7_47) := GE.seq_step (by kernel_rfl)
theorem n7_15s : codeB Try.prog E cx n7_15 st = thenS (codeB Try.prog E cx n7_16 st) (codeB Try.prog E cx n7_19) := GE.seq_step (by kernel_rfl)
theorem n7_13s : codeB Try.prog E cx n7_13 st = thenS (codeB Try.prog E cx n7_14 st) (codeB Try.prog E cx n7_15) := GE.seq_step (by kernel_rfl)
theorem n7_12k : LL.kp (⟨7, 191, b, ro⟩ : Cx).fn (4 * rid n7_13 + 3) = some ⟨[1, 2, 7, 8, 9, 26, 27, 28], [⟨1, 0, 1, true⟩, ⟨7, 0, 2, true⟩, ⟨8, 0, 1, true⟩, ⟨9, 0, 1, true⟩, ⟨26, 0, 2, true⟩]⟩ := by kernel_rfl
theorem n7_12s : codeB Try.prog LL ⟨7, 191, b, ro⟩ n7_12 st = headS b ⟨[1, 2, 7, 8, 9, 26, 27, 28], [⟨1, 0, 1, true⟩, ⟨7, 0, 2, true⟩, ⟨8, 0, 1, true⟩, ⟨9, 0, 1, true⟩, ⟨26, 0, 2, true⟩]⟩ st (lpB Try.prog LL ⟨7, 191, b, ro⟩ n7_12 n7_13) := GE.lpB_step (by kernel_rfl) (n7_12k b ro)
theorem n7_12g : LL.code ⟨7, 191, b, ro⟩ n7_12 st = headS b ⟨[1, 2, 7, 8, 9, 26, 27, 28], [⟨1, 0, 1, true⟩, ⟨7, 0, 2, true⟩, ⟨8, 0, 1, true⟩, ⟨9, 0, 1, true⟩, ⟨26, 0, 2, true⟩]⟩ st (lpB Try.prog LL ⟨7, 191, b, ro⟩ n7_12 n7_13) := GE.lpB_again (by kernel_rfl) (n7_12k b ro)
theorem n7_11s : codeB Try.prog E cx n7_11 st = blockS 0 (codeB Try.prog E cx n7_12 st) st := GE.block_step (by kernel_rfl)
theorem n7_9s : codeB Try.prog E cx n7_9 st = thenS (codeB Try.prog E cx n7_10 st) (codeB Try.prog E cx n7_11) := GE.seq_step (by kernel_rfl)
theorem n7_49s : codeB Try.prog E ⟨f, 191, b, ro⟩ n7_49 st = plainS (runOps Try.prog E b q7_49 (ops [true, true, true, true, true, false] Try.f7) st) := GE.region_step (id := 16) (GE.reg_of (by kernel_rfl)) (by kernel_rfl)
theorem n7_51s : codeB Try.prog E ⟨f, 191, b, ro⟩ n7_51 st = plainS (runOps Try.prog E b q7_51 (ops [true, true, true, true, true, true, false] Try.f7) st) := GE.region_step (id := 17) (GE.reg_of (by kernel_rfl)) (by kernel_rfl)
theorem n7_53s : codeB Try.prog E ⟨f, 191, b, ro⟩ n7_53 st = plainS (runOps Try.prog E b q7_53 (ops [true, true, true, true, true, true, true, false] Try.f7) st) := GE.region_step (id := 18) (GE.reg_of (by kernel_rfl)) (by kernel_rfl)
theorem q7_56g2 : gd q7_56 2 = some 126 := by kernel_rfl
theorem q7_56g6 : gd q7_56 6 = some 130 := by kernel_rfl
theorem q7_56g13 : gd q7_56 13 = some 137 := by kernel_rfl
theorem n7_56s : codeB Try.prog E ⟨f, 191, b, ro⟩ n7_56 st = plainS (runOps Try.prog E b q7_56 (ops [true, true, true, true, true, true, true, true, false, false] Try.f7) st) := GE.region_step (id := 19) (GE.reg_of (by kernel_rfl)) (by kernel_rfl)
theorem n7_59s : codeB Try.prog E ⟨f, 191, b, ro⟩ n7_59 st = plainS (runOps Try.prog E b q7_59 (ops [true, true, true, true, true, true, true, true, false, true, false, false] Try.f7) st) := GE.region_step (id := 20) (GE.reg_of (by kernel_rfl)) (by kernel_rfl)
theorem n7_60s : codeB Try.prog LL ⟨7, 191, b, ro⟩ n7_60 st = normS b ⟨[6], []⟩ .ret st := GE.ret_step (by kernel_rfl) (by kernel_rfl)
theorem n7_58s : codeB Try.prog E cx n7_58 st = thenS (codeB Try.prog E cx n7_59 st) (codeB Try.prog E cx n7_60) := GE.seq_step (by kernel_rfl)
theorem n7_61s : codeB Try.prog E cx n7_61 st = some (.normal, st) := GE.skip_step (by kernel_rfl)
theorem n7_57s : codeB Try.prog E cx n7_57 st = condS (codeB Try.prog E cx n7_58) (codeB Try.prog E cx n7_61) (lk st.σ 142) st := GE.cond_step (c := .tmp 142) (by kernel_rfl)
theorem n7_55s : codeB Try.prog E cx n7_55 st = thenS (codeB Try.prog E cx n7_56 st) (codeB Try.prog E cx n7_57) := GE.seq_step (by kernel_rfl)
theorem n7_64s : codeB Try.prog E ⟨f, 191, b, ro⟩ n7_64 st = plainS (runOps Try.prog E b q7_64 (ops [true, true, true, true, true, true, true, true, true, false, false] Try.f7) st) := GE.region_step (id := 21) (GE.reg_of (by kernel_rfl)) (by kernel_rfl)
theorem n7_68s : codeB Try.prog E ⟨f, 191, b, ro⟩ n7_68 st = plainS (runOps Try.prog E b q7_68 (ops [true, true, true, true, true, true, true, true, true, false, true, false, false, false] Try.f7) st) := GE.region_step (id := 22) (GE.reg_of (by kernel_rfl)) (by kernel_rfl)
theorem n7_71s : codeB Try.prog E cx n7_71 st = some (.normal, st) := GE.skip_step (by kernel_rfl)
theorem n7_72s : codeB Try.prog LL ⟨7, 191, b, ro⟩ n7_72 st = normS b ⟨[], []⟩ (.exit 4) st := GE.exit_step (by kernel_rfl) (by kernel_rfl)
theorem n7_70s : codeB Try.prog E cx n7_70 st = condS (codeB Try.prog E cx n7_71) (codeB Try.prog E cx n7_72) (lk st.σ 146) st := GE.cond_step (c := .tmp 146) (by kernel_rfl)
theorem n7_76s : codeB Try.prog E ⟨f, 191, b, ro⟩ n7_76 st = plainS (runOps Try.prog E b q7_76 (ops [true, true, true, true, true, true, true, true, true, false, true, false, false, true, true, false, false, false] Try.f7) st) := GE.region_step (id := 23) (GE.reg_of (by kernel_rfl)) (by kernel_rfl)
theorem q7_78g8 : gd q7_78 8 = some 158 := by kernel_rfl
theorem q7_78g18 : gd q7_78 18 = some 168 := by kernel_rfl
theorem q7_78g22 : gd q7_78 22 = some 172 := by kernel_rfl
theorem q7_78g29 : gd q7_78 29 = some 179 := by kernel_rfl
theorem q7_78g33 : gd q7_78 33 = some 183 := by kernel_rfl
theorem n7_78s : codeB Try.prog E ⟨f, 191, b, ro⟩ n7_78 st = plainS (runOps Try.prog E b q7_78 (ops [true, true, true, true, true, true, true, true, true, false, true, false, false, true, true, false, false, true, false] Try.f7) st) := GE.region_step (id := 24) (GE.reg_of (by kernel_rfl)) (by kernel_rfl)
theorem n7_81s : codeB Try.prog E ⟨f, 191, b, ro⟩ n7_81 st = plainS (runOps Try.prog E b q7_81 (ops [true, true, true, true, true, true, true, true, true, false, true, false, false, true, true, false, false, true, true, false, false] Try.f7) st) := GE.region_step (id := 25) (GE.reg_of (by kernel_rfl)) (by kernel_rfl)
theorem n7_82s : codeB Try.prog LL ⟨7, 191, b, ro⟩ n7_82 st = normS b ⟨[6], []⟩ .ret st := GE.ret_step (by kernel_rfl) (by kernel_rfl)
theorem n7_80s : codeB Try.prog E cx n7_80 st = thenS (codeB Try.prog E cx n7_81 st) (codeB Try.prog E cx n7_82) := GE.seq_step (by kernel_rfl)
theorem n7_83s : codeB Try.prog E cx n7_83 st = some (.normal, st) := GE.skip_step (by kernel_rfl)
theorem n7_79s : codeB Try.prog E cx n7_79 st = condS (codeB Try.prog E cx n7_80) (codeB Try.prog E cx n7_83) (lk st.σ 188) st := GE.cond_step (c := .tmp 188) (by kernel_rfl)
theorem n7_77s : codeB Try.prog E cx n7_77 st = thenS (codeB Try.prog E cx n7_78 st) (codeB Try.prog E cx n7_79) := GE.seq_step (by kernel_rfl)
theorem n7_75s : codeB Try.prog E cx n7_75 st = thenS (codeB Try.prog E cx n7_76 st) (codeB Try.prog E cx n7_77) := GE.seq_step (by kernel_rfl)
theorem n7_74s : codeB Try.prog E cx n7_74 st = blockS 5 (codeB Try.prog E cx n7_75 st) st := GE.block_step (by kernel_rfl)
theorem n7_84s : codeB Try.prog E ⟨f, 191, b, ro⟩ n7_84 st = plainS (runOps Try.prog E b q7_84 (ops [true, true, true, true, true, true, true, true, true, false, true, false, false, true, true, true] Try.f7) st) := GE.region_step (id := 26) (GE.reg_of (by kernel_rfl)) (by kernel_rfl)
theorem n7_73s : codeB Try.prog E cx n7_73 st = thenS (codeB Try.prog E cx n7_74 st) (codeB Try.prog E cx n7_84) := GE.seq_step (by kernel_rfl)
theorem n7_69s : codeB Try.prog E cx n7_69 st = thenS (codeB Try.prog E cx n7_70 st) (codeB Try.prog E cx n7_73) := GE.seq_step (by kernel_rfl)
theorem n7_67s : codeB Try.prog E cx n7_67 st = thenS (codeB Try.prog E cx n7_68 st) (codeB Try.prog E cx n7_69) := GE.seq_step (by kernel_rfl)
theorem n7_66k : LL.kp (⟨7, 191, b, ro⟩ : Cx).fn (4 * rid n7_67 + 3) = some ⟨[13, 14, 16, 17, 143, 144, 145], [⟨14, 0, 2, true⟩, ⟨16, 0, 1, true⟩, ⟨17, 0, 1, true⟩, ⟨143, 0, 1, true⟩]⟩ := by kernel_rfl
theorem n7_66s : codeB Try.prog LL ⟨7, 191, b, ro⟩ n7_66 st = headS b ⟨[13, 14, 16, 17, 143, 144, 145], [⟨14, 0, 2, true⟩, ⟨16, 0, 1, true⟩, ⟨17, 0, 1, true⟩, ⟨143, 0, 1, true⟩]⟩ st (lpB Try.prog LL ⟨7, 191, b, ro⟩ n7_66 n7_67) := GE.lpB_step (by kernel_rfl) (n7_66k b ro)
theorem n7_66g : LL.code ⟨7, 191, b, ro⟩ n7_66 st = headS b ⟨[13, 14, 16, 17, 143, 144, 145], [⟨14, 0, 2, true⟩, ⟨16, 0, 1, true⟩, ⟨17, 0, 1, true⟩, ⟨143, 0, 1, true⟩]⟩ st (lpB Try.prog LL ⟨7, 191, b, ro⟩ n7_66 n7_67) := GE.lpB_again (by kernel_rfl) (n7_66k b ro)
theorem n7_65s : codeB Try.prog E cx n7_65 st = blockS 4 (codeB Try.prog E cx n7_66 st) st := GE.block_step (by kernel_rfl)
theorem n7_63s : codeB Try.prog E cx n7_63 st = thenS (codeB Try.prog E cx n7_64 st) (codeB Try.prog E cx n7_65) := GE.seq_step (by kernel_rfl)
theorem n7_86s : codeB Try.prog E ⟨f, 191, b, ro⟩ n7_86 st = plainS (runOps Try.prog E b q7_86 (ops [true, true, true, true, true, true, true, true, true, true, false] Try.f7) st) := GE.region_step (id := 27) (GE.reg_of (by kernel_rfl)) (by kernel_rfl)
theorem n7_87s : codeB Try.prog LL ⟨7, 191, b, ro⟩ n7_87 st = normS b ⟨[6], []⟩ .ret st := GE.ret_step (by kernel_rfl) (by kernel_rfl)
theorem n7_85s : codeB Try.prog E cx n7_85 st = thenS (codeB Try.prog E cx n7_86 st) (codeB Try.prog E cx n7_87) := GE.seq_step (by kernel_rfl)
theorem n7_62s : codeB Try.prog E cx n7_62 st = thenS (codeB Try.prog E cx n7_63 st) (codeB Try.prog E cx n7_85) := GE.seq_step (by kernel_rfl)
theorem n7_54s : codeB Try.prog E cx n7_54 st = thenS (codeB Try.prog E cx n7_55 st) (codeB Try.prog E cx n7_62) := GE.seq_step (by kernel_rfl)
theorem n7_52s : codeB Try.prog E cx n7_52 st = thenS (codeB Try.prog E cx n7_53 st) (codeB Try.prog E cx n7_54) := GE.seq_step (by kernel_rfl)
theorem n7_50s : codeB Try.prog E cx n7_50 st = thenS (codeB Try.prog E cx n7_51 st) (codeB Try.prog E cx n7_52) := GE.seq_step (by kernel_rfl)
theorem n7_48s : codeB Try.prog E cx n7_48 st = thenS (codeB Try.prog E cx n7_49 st) (codeB Try.prog E cx n7_50) := GE.seq_step (by kernel_rfl)
theorem n7_8s : codeB Try.prog E cx n7_8 st = thenS (codeB Try.prog E cx n7_9 st) (codeB Try.prog E cx n7_48) := GE.seq_step (by kernel_rfl)
theorem n7_6s : codeB Try.prog E cx n7_6 st = thenS (codeB Try.prog E cx n7_7 st) (codeB Try.prog E cx n7_8) := GE.seq_step (by kernel_rfl)
theorem n7_4s : codeB Try.prog E cx n7_4 st = thenS (codeB Try.prog E cx n7_5 st) (codeB Try.prog E cx n7_6) := GE.seq_step (by kernel_rfl)
theorem n7_2s : codeB Try.prog E cx n7_2 st = thenS (codeB Try.prog E cx n7_3 st) (codeB Try.prog E cx n7_4) := GE.seq_step (by kernel_rfl)
theorem n7_0s : codeB Try.prog E cx n7_0 st = thenS (codeB Try.prog E cx n7_1 st) (codeB Try.prog E cx n7_2) := GE.seq_step (by kernel_rfl)
noncomputable def n17_0 : Code := bodyOf Try.f17
noncomputable def n17_1 : Code := cl n17_0
noncomputable def q17_1 : List Oper := opsOf n17_1
noncomputable def n17_2 : Code := cr n17_0
noncomputable def n17_3 : Code := cl n17_2
noncomputable def n17_4 : Code := cl n17_3
noncomputable def q17_4 : List Oper := opsOf n17_4
noncomputable def n17_5 : Code := cr n17_3
noncomputable def n17_6 : Code := cl n17_5
noncomputable def q17_6 : List Oper := opsOf n17_6
noncomputable def n17_7 : Code := cr n17_5
noncomputable def n17_8 : Code := cl n17_7
noncomputable def n17_9 : Code := cl n17_8
noncomputable def q17_9 : List Oper := opsOf n17_9
noncomputable def n17_10 : Code := cr n17_8
noncomputable def n17_11 : Code := cr n17_7
noncomputable def n17_12 : Code := cr n17_2
noncomputable def n17_13 : Code := cl n17_12
noncomputable def q17_13 : List Oper := opsOf n17_13
noncomputable def n17_14 : Code := cr n17_12
noncomputable def n17_15 : Code := cl n17_14
noncomputable def n17_16 : Code := cl n17_15
noncomputable def q17_16 : List Oper := opsOf n17_16
noncomputable def n17_17 : Code := cr n17_15
noncomputable def n17_18 : Code := cl n17_17
noncomputable def n17_19 : Code := cl n17_18
noncomputable def n17_20 : Code := cl n17_19
noncomputable def q17_20 : List Oper := opsOf n17_20
noncomputable def n17_21 : Code := cr n17_19
noncomputable def n17_22 : Code := cl n17_21
noncomputable def n17_23 : Code := cl n17_22
noncomputable def n17_24 : Code := cr n17_22
noncomputable def n17_25 : Code := cr n17_21
noncomputable def n17_26 : Code := cl n17_25
noncomputable def n17_27 : Code := cl n17_26
noncomputable def n17_28 : Code := cl n17_27
noncomputable def q17_28 : List Oper := opsOf n17_28
noncomputable def n17_29 : Code := cr n17_27
noncomputable def q17_29 : List Oper := opsOf n17_29
noncomputable def n17_30 : Code := cr n17_25
noncomputable def q17_30 : List Oper := opsOf n17_30
noncomputable def n17_31 : Code := cr n17_14
noncomputable def n17_32 : Code := cl n17_31
noncomputable def q17_32 : List Oper := opsOf n17_32
noncomputable def n17_33 : Code := cr n17_31
theorem body17 : Try.f17.body = some n17_0 := by kernel_rfl
theorem run17 (E : Ev) (args : List Value) (h : List Blk) (hl : args.length ≤ 25) : runB Try.prog E 17 args h = endS Try.prog [.tmp 2, .tmp 3] h.length (codeB Try.prog E ⟨17, 25, h.length, none⟩ n17_0 ⟨enumT 0 args, h, []⟩) := GE.run_step Try.func17 body17 (by kernel_rfl) (by decide) (by kernel_rfl) hl
theorem n17_1s : codeB Try.prog E ⟨f, 25, b, ro⟩ n17_1 st = plainS (runOps Try.prog E b q17_1 (ops [false] Try.f17) st) := GE.region_step (id := 0) (GE.reg_of (by kernel_rfl)) (by kernel_rfl)
theorem n17_4s : codeB Try.prog E ⟨f, 25, b, ro⟩ n17_4 st = plainS (runOps Try.prog E b q17_4 (ops [true, false, false] Try.f17) st) := GE.region_step (id := 1) (GE.reg_of (by kernel_rfl)) (by kernel_rfl)
theorem n17_6s : codeB Try.prog E ⟨f, 25, b, ro⟩ n17_6 st = plainS (runOps Try.prog E b q17_6 (ops [true, false, true, false] Try.f17) st) := GE.region_step (id := 2) (GE.reg_of (by kernel_rfl)) (by kernel_rfl)
theorem n17_9s : codeB Try.prog E ⟨f, 25, b, ro⟩ n17_9 st = plainS (runOps Try.prog E b q17_9 (ops [true, false, true, true, false, false] Try.f17) st) := GE.region_step (id := 3) (GE.reg_of (by kernel_rfl)) (by kernel_rfl)
theorem n17_10s : codeB Try.prog LL ⟨17, 25, b, ro⟩ n17_10 st = normS b ⟨[2, 3], [⟨2, 0, 2, true⟩]⟩ .ret st := GE.ret_step (by kernel_rfl) (by kernel_rfl)
theorem n17_8s : codeB Try.prog E cx n17_8 st = thenS (codeB Try.prog E cx n17_9 st) (codeB Try.prog E cx n17_10) := GE.seq_step (by kernel_rfl)
theorem n17_11s : codeB Try.prog E cx n17_11 st = some (.normal, st) := GE.skip_step (by kernel_rfl)
theorem n17_7s : codeB Try.prog E cx n17_7 st = condS (codeB Try.prog E cx n17_8) (codeB Try.prog E cx n17_11) (lk st.σ 10) st := GE.cond_step (c := .tmp 10) (by kernel_rfl)
theorem n17_5s : codeB Try.prog E cx n17_5 st = thenS (codeB Try.prog E cx n17_6 st) (codeB Try.prog E cx n17_7) := GE.seq_step (by kernel_rfl)
theorem n17_3s : codeB Try.prog E cx n17_3 st = thenS (codeB Try.prog E cx n17_4 st) (codeB Try.prog E cx n17_5) := GE.seq_step (by kernel_rfl)
theorem n17_13s : codeB Try.prog E ⟨f, 25, b, ro⟩ n17_13 st = plainS (runOps Try.prog E b q17_13 (ops [true, true, false] Try.f17) st) := GE.region_step (id := 4) (GE.reg_of (by kernel_rfl)) (by kernel_rfl)
theorem n17_16s : codeB Try.prog E ⟨f, 25, b, ro⟩ n17_16 st = plainS (runOps Try.prog E b q17_16 (ops [true, true, true, false, false] Try.f17) st) := GE.region_step (id := 5) (GE.reg_of (by kernel_rfl)) (by kernel_rfl)
theorem n17_20s : codeB Try.prog E ⟨f, 25, b, ro⟩ n17_20 st = plainS (runOps Try.prog E b q17_20 (ops [true, true, true, false, true, false, false, false] Try.f17) st) := GE.region_step (id := 6) (GE.reg_of (by kernel_rfl)) (by kernel_rfl)
theorem n17_23s : codeB Try.prog E cx n17_23 st = some (.normal, st) := GE.skip_step (by kernel_rfl)
theorem n17_24s : codeB Try.prog LL ⟨17, 25, b, ro⟩ n17_24 st = normS b ⟨[5], [⟨5, 0, 2, true⟩]⟩ (.exit 0) st := GE.exit_step (by kernel_rfl) (by kernel_rfl)
theorem n17_22s : codeB Try.prog E cx n17_22 st = condS (codeB Try.prog E cx n17_23) (codeB Try.prog E cx n17_24) (lk st.σ 15) st := GE.cond_step (c := .tmp 15) (by kernel_rfl)
theorem n17_28s : codeB Try.prog E ⟨f, 25, b, ro⟩ n17_28 st = plainS (runOps Try.prog E b q17_28 (ops [true, true, true, false, true, false, false, true, true, false, false, false] Try.f17) st) := GE.region_step (id := 7) (GE.reg_of (by kernel_rfl)) (by kernel_rfl)
theorem n17_29s : codeB Try.prog E ⟨f, 25, b, ro⟩ n17_29 st = plainS (runOps Try.prog E b q17_29 (ops [true, true, true, false, true, false, false, true, true, false, false, true] Try.f17) st) := GE.region_step (id := 8) (GE.reg_of (by kernel_rfl)) (by kernel_rfl)
theorem n17_27s : codeB Try.prog E cx n17_27 st = thenS (codeB Try.prog E cx n17_28 st) (codeB Try.prog E cx n17_29) := GE.seq_step (by kernel_rfl)
theorem n17_26s : codeB Try.prog E cx n17_26 st = blockS 1 (codeB Try.prog E cx n17_27 st) st := GE.block_step (by kernel_rfl)
theorem n17_30s : codeB Try.prog E ⟨f, 25, b, ro⟩ n17_30 st = plainS (runOps Try.prog E b q17_30 (ops [true, true, true, false, true, false, false, true, true, true] Try.f17) st) := GE.region_step (id := 9) (GE.reg_of (by kernel_rfl)) (by kernel_rfl)
theorem n17_25s : codeB Try.prog E cx n17_25 st = thenS (codeB Try.prog E cx n17_26 st) (codeB Try.prog E cx n17_30) := GE.seq_step (by kernel_rfl)
theorem n17_21s : codeB Try.prog E cx n17_21 st = thenS (codeB Try.prog E cx n17_22 st) (codeB Try.prog E cx n17_25) := GE.seq_step (by kernel_rfl)
theorem n17_19s : codeB Try.prog E cx n17_19 st = thenS (codeB Try.prog E cx n17_20 st) (codeB Try.prog E cx n17_21) := GE.seq_step (by kernel_rfl)
theorem n17_18k : LL.kp (⟨17, 25, b, ro⟩ : Cx).fn (4 * rid n17_19 + 3) = some ⟨[0, 5, 13, 14], [⟨0, 0, 2, true⟩, ⟨5, 0, 2, true⟩]⟩ := by kernel_rfl
theorem n17_18s : codeB Try.prog LL ⟨17, 25, b, ro⟩ n17_18 st = headS b ⟨[0, 5, 13, 14], [⟨0, 0, 2, true⟩, ⟨5, 0, 2, true⟩]⟩ st (lpB Try.prog LL ⟨17, 25, b, ro⟩ n17_18 n17_19) := GE.lpB_step (by kernel_rfl) (n17_18k b ro)
theorem n17_18g : LL.code ⟨17, 25, b, ro⟩ n17_18 st = headS b ⟨[0, 5, 13, 14], [⟨0, 0, 2, true⟩, ⟨5, 0, 2, true⟩]⟩ st (lpB Try.prog LL ⟨17, 25, b, ro⟩ n17_18 n17_19) := GE.lpB_again (by kernel_rfl) (n17_18k b ro)
theorem n17_17s : codeB Try.prog E cx n17_17 st = blockS 0 (codeB Try.prog E cx n17_18 st) st := GE.block_step (by kernel_rfl)
theorem n17_15s : codeB Try.prog E cx n17_15 st = thenS (codeB Try.prog E cx n17_16 st) (codeB Try.prog E cx n17_17) := GE.seq_step (by kernel_rfl)
theorem n17_32s : codeB Try.prog E ⟨f, 25, b, ro⟩ n17_32 st = plainS (runOps Try.prog E b q17_32 (ops [true, true, true, true, false] Try.f17) st) := GE.region_step (id := 10) (GE.reg_of (by kernel_rfl)) (by kernel_rfl)
theorem n17_33s : codeB Try.prog LL ⟨17, 25, b, ro⟩ n17_33 st = normS b ⟨[2, 3], [⟨2, 0, 2, true⟩]⟩ .ret st := GE.ret_step (by kernel_rfl) (by kernel_rfl)
theorem n17_31s : codeB Try.prog E cx n17_31 st = thenS (codeB Try.prog E cx n17_32 st) (codeB Try.prog E cx n17_33) := GE.seq_step (by kernel_rfl)
theorem n17_14s : codeB Try.prog E cx n17_14 st = thenS (codeB Try.prog E cx n17_15 st) (codeB Try.prog E cx n17_31) := GE.seq_step (by kernel_rfl)
theorem n17_12s : codeB Try.prog E cx n17_12 st = thenS (codeB Try.prog E cx n17_13 st) (codeB Try.prog E cx n17_14) := GE.seq_step (by kernel_rfl)
theorem n17_2s : codeB Try.prog E cx n17_2 st = thenS (codeB Try.prog E cx n17_3 st) (codeB Try.prog E cx n17_12) := GE.seq_step (by kernel_rfl)
theorem n17_0s : codeB Try.prog E cx n17_0 st = thenS (codeB Try.prog E cx n17_1 st) (codeB Try.prog E cx n17_2) := GE.seq_step (by kernel_rfl)
noncomputable def n19_0 : Code := bodyOf Try.f19
noncomputable def n19_1 : Code := cl n19_0
noncomputable def q19_1 : List Oper := opsOf n19_1
noncomputable def n19_2 : Code := cr n19_0
noncomputable def n19_3 : Code := cl n19_2
noncomputable def q19_3 : List Oper := opsOf n19_3
noncomputable def n19_4 : Code := cr n19_2
noncomputable def n19_5 : Code := cl n19_4
noncomputable def n19_6 : Code := cl n19_5
noncomputable def n19_7 : Code := cl n19_6
noncomputable def q19_7 : List Oper := opsOf n19_7
noncomputable def n19_8 : Code := cr n19_6
noncomputable def n19_9 : Code := cl n19_8
noncomputable def n19_10 : Code := cl n19_9
noncomputable def q19_10 : List Oper := opsOf n19_10
noncomputable def n19_11 : Code := cr n19_9
noncomputable def n19_12 : Code := cr n19_8
noncomputable def n19_13 : Code := cl n19_12
noncomputable def q19_13 : List Oper := opsOf n19_13
noncomputable def n19_14 : Code := cr n19_12
noncomputable def n19_15 : Code := cl n19_14
noncomputable def n19_16 : Code := cl n19_15
noncomputable def q19_16 : List Oper := opsOf n19_16
noncomputable def n19_17 : Code := cr n19_15
noncomputable def n19_18 : Code := cr n19_14
noncomputable def n19_19 : Code := cr n19_4
noncomputable def n19_20 : Code := cl n19_19
noncomputable def n19_21 : Code := cl n19_20
noncomputable def q19_21 : List Oper := opsOf n19_21
noncomputable def n19_22 : Code := cr n19_20
noncomputable def n19_23 : Code := cl n19_22
noncomputable def n19_24 : Code := cl n19_23
noncomputable def n19_25 : Code := cl n19_24
noncomputable def q19_25 : List Oper := opsOf n19_25
noncomputable def n19_26 : Code := cr n19_24
noncomputable def n19_27 : Code := cl n19_26
noncomputable def n19_28 : Code := cl n19_27
noncomputable def n19_29 : Code := cr n19_27
noncomputable def n19_30 : Code := cr n19_26
noncomputable def n19_31 : Code := cl n19_30
noncomputable def n19_32 : Code := cl n19_31
noncomputable def n19_33 : Code := cl n19_32
noncomputable def q19_33 : List Oper := opsOf n19_33
noncomputable def n19_34 : Code := cr n19_32
noncomputable def n19_35 : Code := cl n19_34
noncomputable def n19_36 : Code := cl n19_35
noncomputable def q19_36 : List Oper := opsOf n19_36
noncomputable def n19_37 : Code := cr n19_35
noncomputable def n19_38 : Code := cl n19_37
noncomputable def q19_38 : List Oper := opsOf n19_38
noncomputable def n19_39 : Code := cr n19_37
noncomputable def n19_40 : Code := cr n19_34
noncomputable def n19_41 : Code := cl n19_40
noncomputable def q19_41 : List Oper := opsOf n19_41
noncomputable def n19_42 : Code := cr n19_40
noncomputable def n19_43 : Code := cl n19_42
noncomputable def q19_43 : List Oper := opsOf n19_43
noncomputable def n19_44 : Code := cr n19_42
noncomputable def n19_45 : Code := cr n19_30
noncomputable def q19_45 : List Oper := opsOf n19_45
noncomputable def n19_46 : Code := cr n19_19
noncomputable def n19_47 : Code := cl n19_46
noncomputable def q19_47 : List Oper := opsOf n19_47
noncomputable def n19_48 : Code := cr n19_46
theorem body19 : Try.f19.body = some n19_0 := by kernel_rfl
theorem run19 (E : Ev) (args : List Value) (h : List Blk) (hl : args.length ≤ 51) : runB Try.prog E 19 args h = endS Try.prog [.tmp 4, .tmp 5, .tmp 6] h.length (codeB Try.prog E ⟨19, 51, h.length, none⟩ n19_0 ⟨enumT 0 args, h, []⟩) := GE.run_step Try.func19 body19 (by kernel_rfl) (by decide) (by kernel_rfl) hl
theorem n19_1s : codeB Try.prog E ⟨f, 51, b, ro⟩ n19_1 st = plainS (runOps Try.prog E b q19_1 (ops [false] Try.f19) st) := GE.region_step (id := 0) (GE.reg_of (by kernel_rfl)) (by kernel_rfl)
theorem n19_3s : codeB Try.prog E ⟨f, 51, b, ro⟩ n19_3 st = plainS (runOps Try.prog E b q19_3 (ops [true, false] Try.f19) st) := GE.region_step (id := 1) (GE.reg_of (by kernel_rfl)) (by kernel_rfl)
theorem n19_7s : codeB Try.prog E ⟨f, 51, b, ro⟩ n19_7 st = plainS (runOps Try.prog E b q19_7 (ops [true, true, false, false, false] Try.f19) st) := GE.region_step (id := 2) (GE.reg_of (by kernel_rfl)) (by kernel_rfl)
theorem n19_10s : codeB Try.prog E ⟨f, 51, b, ro⟩ n19_10 st = plainS (runOps Try.prog E b q19_10 (ops [true, true, false, false, true, false, false] Try.f19) st) := GE.region_step (id := 3) (GE.reg_of (by kernel_rfl)) (by kernel_rfl)
theorem n19_11s : codeB Try.prog LL ⟨19, 51, b, ro⟩ n19_11 st = normS b ⟨[4, 5, 6], [⟨4, 0, 1, true⟩, ⟨5, 0, 1, true⟩]⟩ .ret st := GE.ret_step (by kernel_rfl) (by kernel_rfl)
theorem n19_9s : codeB Try.prog E cx n19_9 st = thenS (codeB Try.prog E cx n19_10 st) (codeB Try.prog E cx n19_11) := GE.seq_step (by kernel_rfl)
theorem n19_13s : codeB Try.prog E ⟨f, 51, b, ro⟩ n19_13 st = plainS (runOps Try.prog E b q19_13 (ops [true, true, false, false, true, true, false] Try.f19) st) := GE.region_step (id := 4) (GE.reg_of (by kernel_rfl)) (by kernel_rfl)
theorem n19_16s : codeB Try.prog E ⟨f, 51, b, ro⟩ n19_16 st = plainS (runOps Try.prog E b q19_16 (ops [true, true, false, false, true, true, true, false, false] Try.f19) st) := GE.region_step (id := 5) (GE.reg_of (by kernel_rfl)) (by kernel_rfl)
theorem n19_17s : codeB Try.prog LL ⟨19, 51, b, ro⟩ n19_17 st = normS b ⟨[4, 5, 6], [⟨4, 0, 1, true⟩, ⟨5, 0, 1, true⟩]⟩ .ret st := GE.ret_step (by kernel_rfl) (by kernel_rfl)
theorem n19_15s : codeB Try.prog E cx n19_15 st = thenS (codeB Try.prog E cx n19_16 st) (codeB Try.prog E cx n19_17) := GE.seq_step (by kernel_rfl)
theorem n19_18s : codeB Try.prog E cx n19_18 st = some (.normal, st) := GE.skip_step (by kernel_rfl)
theorem n19_14s : codeB Try.prog E cx n19_14 st = condS (codeB Try.prog E cx n19_15) (codeB Try.prog E cx n19_18) (lk st.σ 19) st := GE.cond_step (c := .tmp 19) (by kernel_rfl)
theorem n19_12s : codeB Try.prog E cx n19_12 st = thenS (codeB Try.prog E cx n19_13 st) (codeB Try.prog E cx n19_14) := GE.seq_step (by kernel_rfl)
theorem n19_8s : codeB Try.prog E cx n19_8 st = condS (codeB Try.prog E cx n19_9) (codeB Try.prog E cx n19_12) (lk st.σ 15) st := GE.cond_step (c := .tmp 15) (by kernel_rfl)
theorem n19_6s : codeB Try.prog E cx n19_6 st = thenS (codeB Try.prog E cx n19_7 st) (codeB Try.prog E cx n19_8) := GE.seq_step (by kernel_rfl)
theorem n19_5s : codeB Try.prog E cx n19_5 st = blockS 0 (codeB Try.prog E cx n19_6 st) st := GE.block_step (by kernel_rfl)
theorem n19_21s : codeB Try.prog E ⟨f, 51, b, ro⟩ n19_21 st = plainS (runOps Try.prog E b q19_21 (ops [true, true, true, false, false] Try.f19) st) := GE.region_step (id := 6) (GE.reg_of (by kernel_rfl)) (by kernel_rfl)
theorem n19_25s : codeB Try.prog E ⟨f, 51, b, ro⟩ n19_25 st = plainS (runOps Try.prog E b q19_25 (ops [true, true, true, false, true, false, false, false] Try.f19) st) := GE.region_step (id := 7) (GE.reg_of (by kernel_rfl)) (by kernel_rfl)
theorem n19_28s : codeB Try.prog E cx n19_28 st = some (.normal, st) := GE.skip_step (by kernel_rfl)
theorem n19_29s : codeB Try.prog LL ⟨19, 51, b, ro⟩ n19_29 st = normS b ⟨[4, 5], [⟨4, 0, 1, true⟩, ⟨5, 0, 1, true⟩]⟩ (.exit 1) st := GE.exit_step (by kernel_rfl) (by kernel_rfl)
theorem n19_27s : codeB Try.prog E cx n19_27 st = condS (codeB Try.prog E cx n19_28) (codeB Try.prog E cx n19_29) (lk st.σ 28) st := GE.cond_step (c := .tmp 28) (by kernel_rfl)
theorem n19_33s : codeB Try.prog E ⟨f, 51, b, ro⟩ n19_33 st = plainS (runOps Try.prog E b q19_33 (ops [true, true, true, false, true, false, false, true, true, false, false, false] Try.f19) st) := GE.region_step (id := 8) (GE.reg_of (by kernel_rfl)) (by kernel_rfl)
theorem n19_36s : codeB Try.prog E ⟨f, 51, b, ro⟩ n19_36 st = plainS (runOps Try.prog E b q19_36 (ops [true, true, true, false, true, false, false, true, true, false, false, true, false, false] Try.f19) st) := GE.region_step (id := 9) (GE.reg_of (by kernel_rfl)) (by kernel_rfl)
theorem n19_38s : codeB Try.prog E ⟨f, 51, b, ro⟩ n19_38 st = plainS (runOps Try.prog E b q19_38 (ops [true, true, true, false, true, false, false, true, true, false, false, true, false, true, false] Try.f19) st) := GE.region_step (id := 10) (GE.reg_of (by kernel_rfl)) (by kernel_rfl)
theorem n19_39s : codeB Try.prog E cx n19_39 st = some (.normal, st) := GE.skip_step (by kernel_rfl)
theorem n19_37s : codeB Try.prog E cx n19_37 st = condS (codeB Try.prog E cx n19_38) (codeB Try.prog E cx n19_39) (lk st.σ 35) st := GE.cond_step (c := .tmp 35) (by kernel_rfl)
theorem n19_35s : codeB Try.prog E cx n19_35 st = thenS (codeB Try.prog E cx n19_36 st) (codeB Try.prog E cx n19_37) := GE.seq_step (by kernel_rfl)
theorem n19_41s : codeB Try.prog E ⟨f, 51, b, ro⟩ n19_41 st = plainS (runOps Try.prog E b q19_41 (ops [true, true, true, false, true, false, false, true, true, false, false, true, true, false] Try.f19) st) := GE.region_step (id := 11) (GE.reg_of (by kernel_rfl)) (by kernel_rfl)
theorem n19_43s : codeB Try.prog E ⟨f, 51, b, ro⟩ n19_43 st = plainS (runOps Try.prog E b q19_43 (ops [true, true, true, false, true, false, false, true, true, false, false, true, true, true, false] Try.f19) st) := GE.region_step (id := 12) (GE.reg_of (by kernel_rfl)) (by kernel_rfl)
theorem n19_44s : codeB Try.prog E cx n19_44 st = some (.normal, st) := GE.skip_step (by kernel_rfl)
theorem n19_42s : codeB Try.prog E cx n19_42 st = condS (codeB Try.prog E cx n19_43) (codeB Try.prog E cx n19_44) (lk st.σ 43) st := GE.cond_step (c := .tmp 43) (by kernel_rfl)
theorem n19_40s : codeB Try.prog E cx n19_40 st = thenS (codeB Try.prog E cx n19_41 st) (codeB Try.prog E cx n19_42) := GE.seq_step (by kernel_rfl)
theorem n19_34s : codeB Try.prog E cx n19_34 st = thenS (codeB Try.prog E cx n19_35 st) (codeB Try.prog E cx n19_40) := GE.seq_step (by kernel_rfl)
theorem n19_32s : codeB Try.prog E cx n19_32 st = thenS (codeB Try.prog E cx n19_33 st) (codeB Try.prog E cx n19_34) := GE.seq_step (by kernel_rfl)
theorem n19_31s : codeB Try.prog E cx n19_31 st = blockS 2 (codeB Try.prog E cx n19_32 st) st := GE.block_step (by kernel_rfl)
theorem n19_45s : codeB Try.prog E ⟨f, 51, b, ro⟩ n19_45 st = plainS (runOps Try.prog E b q19_45 (ops [true, true, true, false, true, false, false, true, true, true] Try.f19) st) := GE.region_step (id := 13) (GE.reg_of (by kernel_rfl)) (by kernel_rfl)
theorem n19_30s : codeB Try.prog E cx n19_30 st = thenS (codeB Try.prog E cx n19_31 st) (codeB Try.prog E cx n19_45) := GE.seq_step (by kernel_rfl)
theorem n19_26s : codeB Try.prog E cx n19_26 st = thenS (codeB Try.prog E cx n19_27 st) (codeB Try.prog E cx n19_30) := GE.seq_step (by kernel_rfl)
theorem n19_24s : codeB Try.prog E cx n19_24 st = thenS (codeB Try.prog E cx n19_25 st) (codeB Try.prog E cx n19_26) := GE.seq_step (by kernel_rfl)
theorem n19_23k : LL.kp (⟨19, 51, b, ro⟩ : Cx).fn (4 * rid n19_24 + 3) = some ⟨[1, 4, 5, 25, 26, 27], [⟨4, 0, 1, true⟩, ⟨5, 0, 1, true⟩, ⟨25, 0, 2, true⟩]⟩ := by kernel_rfl
theorem n19_23s : codeB Try.prog LL ⟨19, 51, b, ro⟩ n19_23 st = headS b ⟨[1, 4, 5, 25, 26, 27], [⟨4, 0, 1, true⟩, ⟨5, 0, 1, true⟩, ⟨25, 0, 2, true⟩]⟩ st (lpB Try.prog LL ⟨19, 51, b, ro⟩ n19_23 n19_24) := GE.lpB_step (by kernel_rfl) (n19_23k b ro)
theorem n19_23g : LL.code ⟨19, 51, b, ro⟩ n19_23 st = headS b ⟨[1, 4, 5, 25, 26, 27], [⟨4, 0, 1, true⟩, ⟨5, 0, 1, true⟩, ⟨25, 0, 2, true⟩]⟩ st (lpB Try.prog LL ⟨19, 51, b, ro⟩ n19_23 n19_24) := GE.lpB_again (by kernel_rfl) (n19_23k b ro)
theorem n19_22s : codeB Try.prog E cx n19_22 st = blockS 1 (codeB Try.prog E cx n19_23 st) st := GE.block_step (by kernel_rfl)
theorem n19_20s : codeB Try.prog E cx n19_20 st = thenS (codeB Try.prog E cx n19_21 st) (codeB Try.prog E cx n19_22) := GE.seq_step (by kernel_rfl)
theorem n19_47s : codeB Try.prog E ⟨f, 51, b, ro⟩ n19_47 st = plainS (runOps Try.prog E b q19_47 (ops [true, true, true, true, false] Try.f19) st) := GE.region_step (id := 14) (GE.reg_of (by kernel_rfl)) (by kernel_rfl)
theorem n19_48s : codeB Try.prog LL ⟨19, 51, b, ro⟩ n19_48 st = normS b ⟨[4, 5, 6], [⟨4, 0, 1, true⟩, ⟨5, 0, 1, true⟩]⟩ .ret st := GE.ret_step (by kernel_rfl) (by kernel_rfl)
theorem n19_46s : codeB Try.prog E cx n19_46 st = thenS (codeB Try.prog E cx n19_47 st) (codeB Try.prog E cx n19_48) := GE.seq_step (by kernel_rfl)
theorem n19_19s : codeB Try.prog E cx n19_19 st = thenS (codeB Try.prog E cx n19_20 st) (codeB Try.prog E cx n19_46) := GE.seq_step (by kernel_rfl)
theorem n19_4s : codeB Try.prog E cx n19_4 st = thenS (codeB Try.prog E cx n19_5 st) (codeB Try.prog E cx n19_19) := GE.seq_step (by kernel_rfl)
theorem n19_2s : codeB Try.prog E cx n19_2 st = thenS (codeB Try.prog E cx n19_3 st) (codeB Try.prog E cx n19_4) := GE.seq_step (by kernel_rfl)
theorem n19_0s : codeB Try.prog E cx n19_0 st = thenS (codeB Try.prog E cx n19_1 st) (codeB Try.prog E cx n19_2) := GE.seq_step (by kernel_rfl)
noncomputable def n35_0 : Code := bodyOf Try.f35
noncomputable def n35_1 : Code := cl n35_0
noncomputable def q35_1 : List Oper := opsOf n35_1
noncomputable def n35_2 : Code := cr n35_0
noncomputable def n35_3 : Code := cl n35_2
noncomputable def q35_3 : List Oper := opsOf n35_3
noncomputable def n35_4 : Code := cr n35_2
noncomputable def n35_5 : Code := cl n35_4
noncomputable def n35_6 : Code := cl n35_5
noncomputable def q35_6 : List Oper := opsOf n35_6
noncomputable def n35_7 : Code := cr n35_5
noncomputable def n35_8 : Code := cl n35_7
noncomputable def n35_9 : Code := cl n35_8
noncomputable def n35_10 : Code := cl n35_9
noncomputable def n35_11 : Code := cl n35_10
noncomputable def q35_11 : List Oper := opsOf n35_11
noncomputable def n35_12 : Code := cr n35_10
noncomputable def n35_13 : Code := cl n35_12
noncomputable def n35_14 : Code := cr n35_12
noncomputable def n35_15 : Code := cr n35_9
noncomputable def n35_16 : Code := cl n35_15
noncomputable def n35_17 : Code := cl n35_16
noncomputable def n35_18 : Code := cl n35_17
noncomputable def q35_18 : List Oper := opsOf n35_18
noncomputable def n35_19 : Code := cr n35_17
noncomputable def q35_19 : List Oper := opsOf n35_19
noncomputable def n35_20 : Code := cr n35_15
noncomputable def q35_20 : List Oper := opsOf n35_20
noncomputable def n35_21 : Code := cr n35_4
noncomputable def n35_22 : Code := cl n35_21
noncomputable def n35_23 : Code := cl n35_22
noncomputable def q35_23 : List Oper := opsOf n35_23
noncomputable def n35_24 : Code := cr n35_22
noncomputable def n35_25 : Code := cl n35_24
noncomputable def q35_25 : List Oper := opsOf n35_25
noncomputable def n35_26 : Code := cr n35_24
noncomputable def n35_27 : Code := cr n35_21
noncomputable def n35_28 : Code := cl n35_27
noncomputable def q35_28 : List Oper := opsOf n35_28
noncomputable def n35_29 : Code := cr n35_27
theorem body35 : Try.f35.body = some n35_0 := by kernel_rfl
theorem run35 (E : Ev) (args : List Value) (h : List Blk) (hl : args.length ≤ 43) : runB Try.prog E 35 args h = endS Try.prog [.tmp 2] h.length (codeB Try.prog E ⟨35, 43, h.length, none⟩ n35_0 ⟨enumT 0 args, h, []⟩) := GE.run_step Try.func35 body35 (by kernel_rfl) (by decide) (by kernel_rfl) hl
theorem n35_1s : codeB Try.prog E ⟨f, 43, b, ro⟩ n35_1 st = plainS (runOps Try.prog E b q35_1 (ops [false] Try.f35) st) := GE.region_step (id := 0) (GE.reg_of (by kernel_rfl)) (by kernel_rfl)
theorem n35_3s : codeB Try.prog E ⟨f, 43, b, ro⟩ n35_3 st = plainS (runOps Try.prog E b q35_3 (ops [true, false] Try.f35) st) := GE.region_step (id := 1) (GE.reg_of (by kernel_rfl)) (by kernel_rfl)
theorem n35_6s : codeB Try.prog E ⟨f, 43, b, ro⟩ n35_6 st = plainS (runOps Try.prog E b q35_6 (ops [true, true, false, false] Try.f35) st) := GE.region_step (id := 2) (GE.reg_of (by kernel_rfl)) (by kernel_rfl)
theorem q35_11g4 : gd q35_11 4 = some 10 := by kernel_rfl
theorem n35_11s : codeB Try.prog E ⟨f, 43, b, ro⟩ n35_11 st = plainS (runOps Try.prog E b q35_11 (ops [true, true, false, true, false, false, false, false] Try.f35) st) := GE.region_step (id := 3) (GE.reg_of (by kernel_rfl)) (by kernel_rfl)
theorem n35_13s : codeB Try.prog E cx n35_13 st = some (.normal, st) := GE.skip_step (by kernel_rfl)
theorem n35_14s : codeB Try.prog LL ⟨35, 43, b, ro⟩ n35_14 st = normS b ⟨[3], [⟨3, 0, 2, true⟩]⟩ (.exit 0) st := GE.exit_step (by kernel_rfl) (by kernel_rfl)
theorem n35_12s : codeB Try.prog E cx n35_12 st = condS (codeB Try.prog E cx n35_13) (codeB Try.prog E cx n35_14) (lk st.σ 13) st := GE.cond_step (c := .tmp 13) (by kernel_rfl)
theorem n35_10s : codeB Try.prog E cx n35_10 st = thenS (codeB Try.prog E cx n35_11 st) (codeB Try.prog E cx n35_12) := GE.seq_step (by kernel_rfl)
theorem n35_18s : codeB Try.prog E ⟨f, 43, b, ro⟩ n35_18 st = plainS (runOps Try.prog E b q35_18 (ops [true, true, false, true, false, false, true, false, false, false] Try.f35) st) := GE.region_step (id := 5) (GE.reg_of (by kernel_rfl)) (by kernel_rfl)
theorem n35_19s : codeB Try.prog E ⟨f, 43, b, ro⟩ n35_19 st = plainS (runOps Try.prog E b q35_19 (ops [true, true, false, true, false, false, true, false, false, true] Try.f35) st) := GE.region_step (id := 6) (GE.reg_of (by kernel_rfl)) (by kernel_rfl)
theorem n35_17s : codeB Try.prog E cx n35_17 st = thenS (codeB Try.prog E cx n35_18 st) (codeB Try.prog E cx n35_19) := GE.seq_step (by kernel_rfl)
theorem n35_16s : codeB Try.prog E cx n35_16 st = blockS 1 (codeB Try.prog E cx n35_17 st) st := GE.block_step (by kernel_rfl)
theorem n35_20s : codeB Try.prog E ⟨f, 43, b, ro⟩ n35_20 st = plainS (runOps Try.prog E b q35_20 (ops [true, true, false, true, false, false, true, true] Try.f35) st) := GE.region_step (id := 4) (GE.reg_of (by kernel_rfl)) (by kernel_rfl)
theorem n35_15s : codeB Try.prog E cx n35_15 st = thenS (codeB Try.prog E cx n35_16 st) (codeB Try.prog E cx n35_20) := GE.seq_step (by kernel_rfl)
theorem n35_9s : codeB Try.prog E cx n35_9 st = thenS (codeB Try.prog E cx n35_10 st) (codeB Try.prog E cx n35_15) := GE.seq_step (by kernel_rfl)
theorem n35_8k : LL.kp (⟨35, 43, b, ro⟩ : Cx).fn (4 * rid n35_9 + 3) = some ⟨[0, 3, 4], [⟨0, 0, 2, true⟩, ⟨3, 0, 2, true⟩]⟩ := by kernel_rfl
theorem n35_8s : codeB Try.prog LL ⟨35, 43, b, ro⟩ n35_8 st = headS b ⟨[0, 3, 4], [⟨0, 0, 2, true⟩, ⟨3, 0, 2, true⟩]⟩ st (lpB Try.prog LL ⟨35, 43, b, ro⟩ n35_8 n35_9) := GE.lpB_step (by kernel_rfl) (n35_8k b ro)
theorem n35_8g : LL.code ⟨35, 43, b, ro⟩ n35_8 st = headS b ⟨[0, 3, 4], [⟨0, 0, 2, true⟩, ⟨3, 0, 2, true⟩]⟩ st (lpB Try.prog LL ⟨35, 43, b, ro⟩ n35_8 n35_9) := GE.lpB_again (by kernel_rfl) (n35_8k b ro)
theorem n35_7s : codeB Try.prog E cx n35_7 st = blockS 0 (codeB Try.prog E cx n35_8 st) st := GE.block_step (by kernel_rfl)
theorem n35_5s : codeB Try.prog E cx n35_5 st = thenS (codeB Try.prog E cx n35_6 st) (codeB Try.prog E cx n35_7) := GE.seq_step (by kernel_rfl)
theorem n35_23s : codeB Try.prog E ⟨f, 43, b, ro⟩ n35_23 st = plainS (runOps Try.prog E b q35_23 (ops [true, true, true, false, false] Try.f35) st) := GE.region_step (id := 7) (GE.reg_of (by kernel_rfl)) (by kernel_rfl)
theorem n35_25s : codeB Try.prog E ⟨f, 43, b, ro⟩ n35_25 st = plainS (runOps Try.prog E b q35_25 (ops [true, true, true, false, true, false] Try.f35) st) := GE.region_step (id := 8) (GE.reg_of (by kernel_rfl)) (by kernel_rfl)
theorem n35_26s : codeB Try.prog E cx n35_26 st = some (.normal, st) := GE.skip_step (by kernel_rfl)
theorem n35_24s : codeB Try.prog E cx n35_24 st = condS (codeB Try.prog E cx n35_25) (codeB Try.prog E cx n35_26) (lk st.σ 39) st := GE.cond_step (c := .tmp 39) (by kernel_rfl)
theorem n35_22s : codeB Try.prog E cx n35_22 st = thenS (codeB Try.prog E cx n35_23 st) (codeB Try.prog E cx n35_24) := GE.seq_step (by kernel_rfl)
theorem n35_28s : codeB Try.prog E ⟨f, 43, b, ro⟩ n35_28 st = plainS (runOps Try.prog E b q35_28 (ops [true, true, true, true, false] Try.f35) st) := GE.region_step (id := 9) (GE.reg_of (by kernel_rfl)) (by kernel_rfl)
theorem n35_29s : codeB Try.prog LL ⟨35, 43, b, ro⟩ n35_29 st = normS b ⟨[2], [⟨2, 0, 2, true⟩]⟩ .ret st := GE.ret_step (by kernel_rfl) (by kernel_rfl)
theorem n35_27s : codeB Try.prog E cx n35_27 st = thenS (codeB Try.prog E cx n35_28 st) (codeB Try.prog E cx n35_29) := GE.seq_step (by kernel_rfl)
theorem n35_21s : codeB Try.prog E cx n35_21 st = thenS (codeB Try.prog E cx n35_22 st) (codeB Try.prog E cx n35_27) := GE.seq_step (by kernel_rfl)
theorem n35_4s : codeB Try.prog E cx n35_4 st = thenS (codeB Try.prog E cx n35_5 st) (codeB Try.prog E cx n35_21) := GE.seq_step (by kernel_rfl)
theorem n35_2s : codeB Try.prog E cx n35_2 st = thenS (codeB Try.prog E cx n35_3 st) (codeB Try.prog E cx n35_4) := GE.seq_step (by kernel_rfl)
theorem n35_0s : codeB Try.prog E cx n35_0 st = thenS (codeB Try.prog E cx n35_1 st) (codeB Try.prog E cx n35_2) := GE.seq_step (by kernel_rfl)
noncomputable def n37_0 : Code := bodyOf Try.f37
noncomputable def n37_1 : Code := cl n37_0
noncomputable def q37_1 : List Oper := opsOf n37_1
noncomputable def n37_2 : Code := cr n37_0
noncomputable def n37_3 : Code := cl n37_2
noncomputable def n37_4 : Code := cl n37_3
noncomputable def q37_4 : List Oper := opsOf n37_4
noncomputable def n37_5 : Code := cr n37_3
noncomputable def n37_6 : Code := cl n37_5
noncomputable def q37_6 : List Oper := opsOf n37_6
noncomputable def n37_7 : Code := cr n37_5
noncomputable def n37_8 : Code := cl n37_7
noncomputable def n37_9 : Code := cl n37_8
noncomputable def q37_9 : List Oper := opsOf n37_9
noncomputable def n37_10 : Code := cr n37_8
noncomputable def n37_11 : Code := cr n37_7
noncomputable def n37_12 : Code := cr n37_2
noncomputable def n37_13 : Code := cl n37_12
noncomputable def n37_14 : Code := cl n37_13
noncomputable def q37_14 : List Oper := opsOf n37_14
noncomputable def n37_15 : Code := cr n37_13
noncomputable def n37_16 : Code := cl n37_15
noncomputable def q37_16 : List Oper := opsOf n37_16
noncomputable def n37_17 : Code := cr n37_15
noncomputable def n37_18 : Code := cl n37_17
noncomputable def n37_19 : Code := cl n37_18
noncomputable def q37_19 : List Oper := opsOf n37_19
noncomputable def n37_20 : Code := cr n37_18
noncomputable def n37_21 : Code := cr n37_17
noncomputable def n37_22 : Code := cr n37_12
noncomputable def n37_23 : Code := cl n37_22
noncomputable def q37_23 : List Oper := opsOf n37_23
noncomputable def n37_24 : Code := cr n37_22
theorem body37 : Try.f37.body = some n37_0 := by kernel_rfl
theorem run37 (E : Ev) (args : List Value) (h : List Blk) (hl : args.length ≤ 23) : runB Try.prog E 37 args h = endS Try.prog [.tmp 4] h.length (codeB Try.prog E ⟨37, 23, h.length, none⟩ n37_0 ⟨enumT 0 args, h, []⟩) := GE.run_step Try.func37 body37 (by kernel_rfl) (by decide) (by kernel_rfl) hl
theorem n37_1s : codeB Try.prog E ⟨f, 23, b, ro⟩ n37_1 st = plainS (runOps Try.prog E b q37_1 (ops [false] Try.f37) st) := GE.region_step (id := 0) (GE.reg_of (by kernel_rfl)) (by kernel_rfl)
theorem n37_4s : codeB Try.prog E ⟨f, 23, b, ro⟩ n37_4 st = plainS (runOps Try.prog E b q37_4 (ops [true, false, false] Try.f37) st) := GE.region_step (id := 1) (GE.reg_of (by kernel_rfl)) (by kernel_rfl)
theorem n37_6s : codeB Try.prog E ⟨f, 23, b, ro⟩ n37_6 st = plainS (runOps Try.prog E b q37_6 (ops [true, false, true, false] Try.f37) st) := GE.region_step (id := 2) (GE.reg_of (by kernel_rfl)) (by kernel_rfl)
theorem n37_9s : codeB Try.prog E ⟨f, 23, b, ro⟩ n37_9 st = plainS (runOps Try.prog E b q37_9 (ops [true, false, true, true, false, false] Try.f37) st) := GE.region_step (id := 3) (GE.reg_of (by kernel_rfl)) (by kernel_rfl)
theorem n37_10s : codeB Try.prog LL ⟨37, 23, b, ro⟩ n37_10 st = normS b ⟨[4], []⟩ .ret st := GE.ret_step (by kernel_rfl) (by kernel_rfl)
theorem n37_8s : codeB Try.prog E cx n37_8 st = thenS (codeB Try.prog E cx n37_9 st) (codeB Try.prog E cx n37_10) := GE.seq_step (by kernel_rfl)
theorem n37_11s : codeB Try.prog E cx n37_11 st = some (.normal, st) := GE.skip_step (by kernel_rfl)
theorem n37_7s : codeB Try.prog E cx n37_7 st = condS (codeB Try.prog E cx n37_8) (codeB Try.prog E cx n37_11) (lk st.σ 13) st := GE.cond_step (c := .tmp 13) (by kernel_rfl)
theorem n37_5s : codeB Try.prog E cx n37_5 st = thenS (codeB Try.prog E cx n37_6 st) (codeB Try.prog E cx n37_7) := GE.seq_step (by kernel_rfl)
theorem n37_3s : codeB Try.prog E cx n37_3 st = thenS (codeB Try.prog E cx n37_4 st) (codeB Try.prog E cx n37_5) := GE.seq_step (by kernel_rfl)
theorem n37_14s : codeB Try.prog E ⟨f, 23, b, ro⟩ n37_14 st = plainS (runOps Try.prog E b q37_14 (ops [true, true, false, false] Try.f37) st) := GE.region_step (id := 4) (GE.reg_of (by kernel_rfl)) (by kernel_rfl)
theorem n37_16s : codeB Try.prog E ⟨f, 23, b, ro⟩ n37_16 st = plainS (runOps Try.prog E b q37_16 (ops [true, true, false, true, false] Try.f37) st) := GE.region_step (id := 5) (GE.reg_of (by kernel_rfl)) (by kernel_rfl)
theorem n37_19s : codeB Try.prog E ⟨f, 23, b, ro⟩ n37_19 st = plainS (runOps Try.prog E b q37_19 (ops [true, true, false, true, true, false, false] Try.f37) st) := GE.region_step (id := 6) (GE.reg_of (by kernel_rfl)) (by kernel_rfl)
theorem n37_20s : codeB Try.prog LL ⟨37, 23, b, ro⟩ n37_20 st = normS b ⟨[4], []⟩ .ret st := GE.ret_step (by kernel_rfl) (by kernel_rfl)
theorem n37_18s : codeB Try.prog E cx n37_18 st = thenS (codeB Try.prog E cx n37_19 st) (codeB Try.prog E cx n37_20) := GE.seq_step (by kernel_rfl)
theorem n37_21s : codeB Try.prog E cx n37_21 st = some (.normal, st) := GE.skip_step (by kernel_rfl)
theorem n37_17s : codeB Try.prog E cx n37_17 st = condS (codeB Try.prog E cx n37_18) (codeB Try.prog E cx n37_21) (lk st.σ 22) st := GE.cond_step (c := .tmp 22) (by kernel_rfl)
theorem n37_15s : codeB Try.prog E cx n37_15 st = thenS (codeB Try.prog E cx n37_16 st) (codeB Try.prog E cx n37_17) := GE.seq_step (by kernel_rfl)
theorem n37_13s : codeB Try.prog E cx n37_13 st = thenS (codeB Try.prog E cx n37_14 st) (codeB Try.prog E cx n37_15) := GE.seq_step (by kernel_rfl)
theorem n37_23s : codeB Try.prog E ⟨f, 23, b, ro⟩ n37_23 st = plainS (runOps Try.prog E b q37_23 (ops [true, true, true, false] Try.f37) st) := GE.region_step (id := 7) (GE.reg_of (by kernel_rfl)) (by kernel_rfl)
theorem n37_24s : codeB Try.prog LL ⟨37, 23, b, ro⟩ n37_24 st = normS b ⟨[4], []⟩ .ret st := GE.ret_step (by kernel_rfl) (by kernel_rfl)
theorem n37_22s : codeB Try.prog E cx n37_22 st = thenS (codeB Try.prog E cx n37_23 st) (codeB Try.prog E cx n37_24) := GE.seq_step (by kernel_rfl)
theorem n37_12s : codeB Try.prog E cx n37_12 st = thenS (codeB Try.prog E cx n37_13 st) (codeB Try.prog E cx n37_22) := GE.seq_step (by kernel_rfl)
theorem n37_2s : codeB Try.prog E cx n37_2 st = thenS (codeB Try.prog E cx n37_3 st) (codeB Try.prog E cx n37_12) := GE.seq_step (by kernel_rfl)
theorem n37_0s : codeB Try.prog E cx n37_0 st = thenS (codeB Try.prog E cx n37_1 st) (codeB Try.prog E cx n37_2) := GE.seq_step (by kernel_rfl)
noncomputable def n38_0 : Code := bodyOf Try.f38
noncomputable def n38_1 : Code := cl n38_0
noncomputable def q38_1 : List Oper := opsOf n38_1
noncomputable def n38_2 : Code := cr n38_0
noncomputable def n38_3 : Code := cl n38_2
noncomputable def n38_4 : Code := cl n38_3
noncomputable def q38_4 : List Oper := opsOf n38_4
noncomputable def n38_5 : Code := cr n38_3
noncomputable def n38_6 : Code := cl n38_5
noncomputable def n38_7 : Code := cl n38_6
noncomputable def n38_8 : Code := cl n38_7
noncomputable def q38_8 : List Oper := opsOf n38_8
noncomputable def n38_9 : Code := cr n38_7
noncomputable def n38_10 : Code := cl n38_9
noncomputable def n38_11 : Code := cl n38_10
noncomputable def n38_12 : Code := cr n38_10
noncomputable def n38_13 : Code := cr n38_9
noncomputable def n38_14 : Code := cl n38_13
noncomputable def n38_15 : Code := cl n38_14
noncomputable def n38_16 : Code := cl n38_15
noncomputable def q38_16 : List Oper := opsOf n38_16
noncomputable def n38_17 : Code := cr n38_15
noncomputable def n38_18 : Code := cl n38_17
noncomputable def q38_18 : List Oper := opsOf n38_18
noncomputable def n38_19 : Code := cr n38_17
noncomputable def n38_20 : Code := cl n38_19
noncomputable def n38_21 : Code := cl n38_20
noncomputable def q38_21 : List Oper := opsOf n38_21
noncomputable def n38_22 : Code := cr n38_20
noncomputable def n38_23 : Code := cr n38_19
noncomputable def n38_24 : Code := cr n38_13
noncomputable def q38_24 : List Oper := opsOf n38_24
noncomputable def n38_25 : Code := cr n38_2
noncomputable def n38_26 : Code := cl n38_25
noncomputable def q38_26 : List Oper := opsOf n38_26
noncomputable def n38_27 : Code := cr n38_25
theorem body38 : Try.f38.body = some n38_0 := by kernel_rfl
theorem run38 (E : Ev) (args : List Value) (h : List Blk) (hl : args.length ≤ 17) : runB Try.prog E 38 args h = endS Try.prog [.tmp 4] h.length (codeB Try.prog E ⟨38, 17, h.length, none⟩ n38_0 ⟨enumT 0 args, h, []⟩) := GE.run_step Try.func38 body38 (by kernel_rfl) (by decide) (by kernel_rfl) hl
theorem n38_1s : codeB Try.prog E ⟨f, 17, b, ro⟩ n38_1 st = plainS (runOps Try.prog E b q38_1 (ops [false] Try.f38) st) := GE.region_step (id := 0) (GE.reg_of (by kernel_rfl)) (by kernel_rfl)
theorem n38_4s : codeB Try.prog E ⟨f, 17, b, ro⟩ n38_4 st = plainS (runOps Try.prog E b q38_4 (ops [true, false, false] Try.f38) st) := GE.region_step (id := 1) (GE.reg_of (by kernel_rfl)) (by kernel_rfl)
theorem n38_8s : codeB Try.prog E ⟨f, 17, b, ro⟩ n38_8 st = plainS (runOps Try.prog E b q38_8 (ops [true, false, true, false, false, false] Try.f38) st) := GE.region_step (id := 2) (GE.reg_of (by kernel_rfl)) (by kernel_rfl)
theorem n38_11s : codeB Try.prog E cx n38_11 st = some (.normal, st) := GE.skip_step (by kernel_rfl)
theorem n38_12s : codeB Try.prog LL ⟨38, 17, b, ro⟩ n38_12 st = normS b ⟨[], []⟩ (.exit 0) st := GE.exit_step (by kernel_rfl) (by kernel_rfl)
theorem n38_10s : codeB Try.prog E cx n38_10 st = condS (codeB Try.prog E cx n38_11) (codeB Try.prog E cx n38_12) (lk st.σ 10) st := GE.cond_step (c := .tmp 10) (by kernel_rfl)
theorem n38_16s : codeB Try.prog E ⟨f, 17, b, ro⟩ n38_16 st = plainS (runOps Try.prog E b q38_16 (ops [true, false, true, false, false, true, true, false, false, false] Try.f38) st) := GE.region_step (id := 3) (GE.reg_of (by kernel_rfl)) (by kernel_rfl)
theorem n38_18s : codeB Try.prog E ⟨f, 17, b, ro⟩ n38_18 st = plainS (runOps Try.prog E b q38_18 (ops [true, false, true, false, false, true, true, false, false, true, false] Try.f38) st) := GE.region_step (id := 4) (GE.reg_of (by kernel_rfl)) (by kernel_rfl)
theorem n38_21s : codeB Try.prog E ⟨f, 17, b, ro⟩ n38_21 st = plainS (runOps Try.prog E b q38_21 (ops [true, false, true, false, false, true, true, false, false, true, true, false, false] Try.f38) st) := GE.region_step (id := 5) (GE.reg_of (by kernel_rfl)) (by kernel_rfl)
theorem n38_22s : codeB Try.prog LL ⟨38, 17, b, ro⟩ n38_22 st = normS b ⟨[4], []⟩ .ret st := GE.ret_step (by kernel_rfl) (by kernel_rfl)
theorem n38_20s : codeB Try.prog E cx n38_20 st = thenS (codeB Try.prog E cx n38_21 st) (codeB Try.prog E cx n38_22) := GE.seq_step (by kernel_rfl)
theorem n38_23s : codeB Try.prog E cx n38_23 st = some (.normal, st) := GE.skip_step (by kernel_rfl)
theorem n38_19s : codeB Try.prog E cx n38_19 st = condS (codeB Try.prog E cx n38_20) (codeB Try.prog E cx n38_23) (lk st.σ 15) st := GE.cond_step (c := .tmp 15) (by kernel_rfl)
theorem n38_17s : codeB Try.prog E cx n38_17 st = thenS (codeB Try.prog E cx n38_18 st) (codeB Try.prog E cx n38_19) := GE.seq_step (by kernel_rfl)
theorem n38_15s : codeB Try.prog E cx n38_15 st = thenS (codeB Try.prog E cx n38_16 st) (codeB Try.prog E cx n38_17) := GE.seq_step (by kernel_rfl)
theorem n38_14s : codeB Try.prog E cx n38_14 st = blockS 1 (codeB Try.prog E cx n38_15 st) st := GE.block_step (by kernel_rfl)
theorem n38_24s : codeB Try.prog E ⟨f, 17, b, ro⟩ n38_24 st = plainS (runOps Try.prog E b q38_24 (ops [true, false, true, false, false, true, true, true] Try.f38) st) := GE.region_step (id := 6) (GE.reg_of (by kernel_rfl)) (by kernel_rfl)
theorem n38_13s : codeB Try.prog E cx n38_13 st = thenS (codeB Try.prog E cx n38_14 st) (codeB Try.prog E cx n38_24) := GE.seq_step (by kernel_rfl)
theorem n38_9s : codeB Try.prog E cx n38_9 st = thenS (codeB Try.prog E cx n38_10 st) (codeB Try.prog E cx n38_13) := GE.seq_step (by kernel_rfl)
theorem n38_7s : codeB Try.prog E cx n38_7 st = thenS (codeB Try.prog E cx n38_8 st) (codeB Try.prog E cx n38_9) := GE.seq_step (by kernel_rfl)
theorem n38_6k : LL.kp (⟨38, 17, b, ro⟩ : Cx).fn (4 * rid n38_7 + 3) = some ⟨[1, 7, 8, 9], [⟨7, 0, 1, true⟩]⟩ := by kernel_rfl
theorem n38_6s : codeB Try.prog LL ⟨38, 17, b, ro⟩ n38_6 st = headS b ⟨[1, 7, 8, 9], [⟨7, 0, 1, true⟩]⟩ st (lpB Try.prog LL ⟨38, 17, b, ro⟩ n38_6 n38_7) := GE.lpB_step (by kernel_rfl) (n38_6k b ro)
theorem n38_6g : LL.code ⟨38, 17, b, ro⟩ n38_6 st = headS b ⟨[1, 7, 8, 9], [⟨7, 0, 1, true⟩]⟩ st (lpB Try.prog LL ⟨38, 17, b, ro⟩ n38_6 n38_7) := GE.lpB_again (by kernel_rfl) (n38_6k b ro)
theorem n38_5s : codeB Try.prog E cx n38_5 st = blockS 0 (codeB Try.prog E cx n38_6 st) st := GE.block_step (by kernel_rfl)
theorem n38_3s : codeB Try.prog E cx n38_3 st = thenS (codeB Try.prog E cx n38_4 st) (codeB Try.prog E cx n38_5) := GE.seq_step (by kernel_rfl)
theorem n38_26s : codeB Try.prog E ⟨f, 17, b, ro⟩ n38_26 st = plainS (runOps Try.prog E b q38_26 (ops [true, true, false] Try.f38) st) := GE.region_step (id := 7) (GE.reg_of (by kernel_rfl)) (by kernel_rfl)
theorem n38_27s : codeB Try.prog LL ⟨38, 17, b, ro⟩ n38_27 st = normS b ⟨[4], []⟩ .ret st := GE.ret_step (by kernel_rfl) (by kernel_rfl)
theorem n38_25s : codeB Try.prog E cx n38_25 st = thenS (codeB Try.prog E cx n38_26 st) (codeB Try.prog E cx n38_27) := GE.seq_step (by kernel_rfl)
theorem n38_2s : codeB Try.prog E cx n38_2 st = thenS (codeB Try.prog E cx n38_3 st) (codeB Try.prog E cx n38_25) := GE.seq_step (by kernel_rfl)
theorem n38_0s : codeB Try.prog E cx n38_0 st = thenS (codeB Try.prog E cx n38_1 st) (codeB Try.prog E cx n38_2) := GE.seq_step (by kernel_rfl)
noncomputable def n44_0 : Code := bodyOf Try.f44
noncomputable def n44_1 : Code := cl n44_0
noncomputable def q44_1 : List Oper := opsOf n44_1
noncomputable def n44_2 : Code := cr n44_0
noncomputable def n44_3 : Code := cl n44_2
noncomputable def q44_3 : List Oper := opsOf n44_3
noncomputable def n44_4 : Code := cr n44_2
noncomputable def n44_5 : Code := cl n44_4
noncomputable def n44_6 : Code := cl n44_5
noncomputable def q44_6 : List Oper := opsOf n44_6
noncomputable def n44_7 : Code := cr n44_5
noncomputable def n44_8 : Code := cl n44_7
noncomputable def n44_9 : Code := cl n44_8
noncomputable def n44_10 : Code := cl n44_9
noncomputable def n44_11 : Code := cl n44_10
noncomputable def q44_11 : List Oper := opsOf n44_11
noncomputable def n44_12 : Code := cr n44_10
noncomputable def n44_13 : Code := cl n44_12
noncomputable def n44_14 : Code := cr n44_12
noncomputable def n44_15 : Code := cr n44_9
noncomputable def n44_16 : Code := cl n44_15
noncomputable def n44_17 : Code := cl n44_16
noncomputable def q44_17 : List Oper := opsOf n44_17
noncomputable def n44_18 : Code := cr n44_15
noncomputable def q44_18 : List Oper := opsOf n44_18
noncomputable def n44_19 : Code := cr n44_4
noncomputable def n44_20 : Code := cl n44_19
noncomputable def q44_20 : List Oper := opsOf n44_20
noncomputable def n44_21 : Code := cr n44_19
theorem body44 : Try.f44.body = some n44_0 := by kernel_rfl
theorem run44 (E : Ev) (args : List Value) (h : List Blk) (hl : args.length ≤ 26) : runB Try.prog E 44 args h = endS Try.prog [.tmp 2] h.length (codeB Try.prog E ⟨44, 26, h.length, none⟩ n44_0 ⟨enumT 0 args, h, []⟩) := GE.run_step Try.func44 body44 (by kernel_rfl) (by decide) (by kernel_rfl) hl
theorem n44_1s : codeB Try.prog E ⟨f, 26, b, ro⟩ n44_1 st = plainS (runOps Try.prog E b q44_1 (ops [false] Try.f44) st) := GE.region_step (id := 0) (GE.reg_of (by kernel_rfl)) (by kernel_rfl)
theorem n44_3s : codeB Try.prog E ⟨f, 26, b, ro⟩ n44_3 st = plainS (runOps Try.prog E b q44_3 (ops [true, false] Try.f44) st) := GE.region_step (id := 1) (GE.reg_of (by kernel_rfl)) (by kernel_rfl)
theorem n44_6s : codeB Try.prog E ⟨f, 26, b, ro⟩ n44_6 st = plainS (runOps Try.prog E b q44_6 (ops [true, true, false, false] Try.f44) st) := GE.region_step (id := 2) (GE.reg_of (by kernel_rfl)) (by kernel_rfl)
theorem n44_11s : codeB Try.prog E ⟨f, 26, b, ro⟩ n44_11 st = plainS (runOps Try.prog E b q44_11 (ops [true, true, false, true, false, false, false, false] Try.f44) st) := GE.region_step (id := 3) (GE.reg_of (by kernel_rfl)) (by kernel_rfl)
theorem n44_13s : codeB Try.prog E cx n44_13 st = some (.normal, st) := GE.skip_step (by kernel_rfl)
theorem n44_14s : codeB Try.prog LL ⟨44, 26, b, ro⟩ n44_14 st = normS b ⟨[3], [⟨3, 0, 2, true⟩]⟩ (.exit 0) st := GE.exit_step (by kernel_rfl) (by kernel_rfl)
theorem n44_12s : codeB Try.prog E cx n44_12 st = condS (codeB Try.prog E cx n44_13) (codeB Try.prog E cx n44_14) (lk st.σ 9) st := GE.cond_step (c := .tmp 9) (by kernel_rfl)
theorem n44_10s : codeB Try.prog E cx n44_10 st = thenS (codeB Try.prog E cx n44_11 st) (codeB Try.prog E cx n44_12) := GE.seq_step (by kernel_rfl)
theorem n44_17s : codeB Try.prog E ⟨f, 26, b, ro⟩ n44_17 st = drawS [0, 0, 0, 6, 14, 0, 0, 64, 224, 480, 1022, 2046, 4095, 8191] (runOpsF Try.prog E b q44_17 (ops [true, true, false, true, false, false, true, false, false] Try.f44) st) := GE.draw_step (id := 5) (GE.reg_of (by kernel_rfl)) (by kernel_rfl) (by kernel_rfl) (by kernel_rfl)
theorem n44_16s : codeB Try.prog E cx n44_16 st = blockS 1 (codeB Try.prog E cx n44_17 st) st := GE.block_step (by kernel_rfl)
theorem n44_18s : codeB Try.prog E ⟨f, 26, b, ro⟩ n44_18 st = plainS (runOps Try.prog E b q44_18 (ops [true, true, false, true, false, false, true, true] Try.f44) st) := GE.region_step (id := 4) (GE.reg_of (by kernel_rfl)) (by kernel_rfl)
theorem n44_15s : codeB Try.prog E cx n44_15 st = thenS (codeB Try.prog E cx n44_16 st) (codeB Try.prog E cx n44_18) := GE.seq_step (by kernel_rfl)
theorem n44_9s : codeB Try.prog E cx n44_9 st = thenS (codeB Try.prog E cx n44_10 st) (codeB Try.prog E cx n44_15) := GE.seq_step (by kernel_rfl)
theorem n44_8k : LL.kp (⟨44, 26, b, ro⟩ : Cx).fn (4 * rid n44_9 + 3) = some ⟨[0, 3, 4], [⟨0, 0, 1, true⟩, ⟨3, 0, 2, true⟩]⟩ := by kernel_rfl
theorem n44_8s : codeB Try.prog LL ⟨44, 26, b, ro⟩ n44_8 st = headS b ⟨[0, 3, 4], [⟨0, 0, 1, true⟩, ⟨3, 0, 2, true⟩]⟩ st (lpB Try.prog LL ⟨44, 26, b, ro⟩ n44_8 n44_9) := GE.lpB_step (by kernel_rfl) (n44_8k b ro)
theorem n44_8g : LL.code ⟨44, 26, b, ro⟩ n44_8 st = headS b ⟨[0, 3, 4], [⟨0, 0, 1, true⟩, ⟨3, 0, 2, true⟩]⟩ st (lpB Try.prog LL ⟨44, 26, b, ro⟩ n44_8 n44_9) := GE.lpB_again (by kernel_rfl) (n44_8k b ro)
theorem n44_7s : codeB Try.prog E cx n44_7 st = blockS 0 (codeB Try.prog E cx n44_8 st) st := GE.block_step (by kernel_rfl)
theorem n44_5s : codeB Try.prog E cx n44_5 st = thenS (codeB Try.prog E cx n44_6 st) (codeB Try.prog E cx n44_7) := GE.seq_step (by kernel_rfl)
theorem n44_20s : codeB Try.prog E ⟨f, 26, b, ro⟩ n44_20 st = plainS (runOps Try.prog E b q44_20 (ops [true, true, true, false] Try.f44) st) := GE.region_step (id := 6) (GE.reg_of (by kernel_rfl)) (by kernel_rfl)
theorem n44_21s : codeB Try.prog LL ⟨44, 26, b, ro⟩ n44_21 st = normS b ⟨[2], [⟨2, 0, 2, true⟩]⟩ .ret st := GE.ret_step (by kernel_rfl) (by kernel_rfl)
theorem n44_19s : codeB Try.prog E cx n44_19 st = thenS (codeB Try.prog E cx n44_20 st) (codeB Try.prog E cx n44_21) := GE.seq_step (by kernel_rfl)
theorem n44_4s : codeB Try.prog E cx n44_4 st = thenS (codeB Try.prog E cx n44_5 st) (codeB Try.prog E cx n44_19) := GE.seq_step (by kernel_rfl)
theorem n44_2s : codeB Try.prog E cx n44_2 st = thenS (codeB Try.prog E cx n44_3 st) (codeB Try.prog E cx n44_4) := GE.seq_step (by kernel_rfl)
theorem n44_0s : codeB Try.prog E cx n44_0 st = thenS (codeB Try.prog E cx n44_1 st) (codeB Try.prog E cx n44_2) := GE.seq_step (by kernel_rfl)
noncomputable def n45_0 : Code := bodyOf Try.f45
noncomputable def n45_1 : Code := cl n45_0
noncomputable def q45_1 : List Oper := opsOf n45_1
noncomputable def n45_2 : Code := cr n45_0
noncomputable def n45_3 : Code := cl n45_2
noncomputable def n45_4 : Code := cl n45_3
noncomputable def n45_5 : Code := cl n45_4
noncomputable def q45_5 : List Oper := opsOf n45_5
noncomputable def n45_6 : Code := cr n45_4
noncomputable def n45_7 : Code := cl n45_6
noncomputable def n45_8 : Code := cl n45_7
noncomputable def q45_8 : List Oper := opsOf n45_8
noncomputable def n45_9 : Code := cr n45_7
noncomputable def n45_10 : Code := cr n45_6
noncomputable def n45_11 : Code := cl n45_10
noncomputable def q45_11 : List Oper := opsOf n45_11
noncomputable def n45_12 : Code := cr n45_10
noncomputable def n45_13 : Code := cl n45_12
noncomputable def n45_14 : Code := cl n45_13
noncomputable def q45_14 : List Oper := opsOf n45_14
noncomputable def n45_15 : Code := cr n45_13
noncomputable def n45_16 : Code := cr n45_12
noncomputable def n45_17 : Code := cl n45_16
noncomputable def q45_17 : List Oper := opsOf n45_17
noncomputable def n45_18 : Code := cr n45_16
noncomputable def n45_19 : Code := cl n45_18
noncomputable def n45_20 : Code := cl n45_19
noncomputable def q45_20 : List Oper := opsOf n45_20
noncomputable def n45_21 : Code := cr n45_19
noncomputable def n45_22 : Code := cr n45_18
noncomputable def n45_23 : Code := cr n45_2
noncomputable def n45_24 : Code := cl n45_23
noncomputable def q45_24 : List Oper := opsOf n45_24
noncomputable def n45_25 : Code := cr n45_23
theorem body45 : Try.f45.body = some n45_0 := by kernel_rfl
theorem run45 (E : Ev) (args : List Value) (h : List Blk) (hl : args.length ≤ 14) : runB Try.prog E 45 args h = endS Try.prog [.tmp 2] h.length (codeB Try.prog E ⟨45, 14, h.length, none⟩ n45_0 ⟨enumT 0 args, h, []⟩) := GE.run_step Try.func45 body45 (by kernel_rfl) (by decide) (by kernel_rfl) hl
theorem n45_1s : codeB Try.prog E ⟨f, 14, b, ro⟩ n45_1 st = plainS (runOps Try.prog E b q45_1 (ops [false] Try.f45) st) := GE.region_step (id := 0) (GE.reg_of (by kernel_rfl)) (by kernel_rfl)
theorem n45_5s : codeB Try.prog E ⟨f, 14, b, ro⟩ n45_5 st = plainS (runOps Try.prog E b q45_5 (ops [true, false, false, false] Try.f45) st) := GE.region_step (id := 1) (GE.reg_of (by kernel_rfl)) (by kernel_rfl)
theorem n45_8s : codeB Try.prog E ⟨f, 14, b, ro⟩ n45_8 st = plainS (runOps Try.prog E b q45_8 (ops [true, false, false, true, false, false] Try.f45) st) := GE.region_step (id := 2) (GE.reg_of (by kernel_rfl)) (by kernel_rfl)
theorem n45_9s : codeB Try.prog LL ⟨45, 14, b, ro⟩ n45_9 st = normS b ⟨[2], []⟩ .ret st := GE.ret_step (by kernel_rfl) (by kernel_rfl)
theorem n45_7s : codeB Try.prog E cx n45_7 st = thenS (codeB Try.prog E cx n45_8 st) (codeB Try.prog E cx n45_9) := GE.seq_step (by kernel_rfl)
theorem n45_11s : codeB Try.prog E ⟨f, 14, b, ro⟩ n45_11 st = plainS (runOps Try.prog E b q45_11 (ops [true, false, false, true, true, false] Try.f45) st) := GE.region_step (id := 3) (GE.reg_of (by kernel_rfl)) (by kernel_rfl)
theorem n45_14s : codeB Try.prog E ⟨f, 14, b, ro⟩ n45_14 st = plainS (runOps Try.prog E b q45_14 (ops [true, false, false, true, true, true, false, false] Try.f45) st) := GE.region_step (id := 4) (GE.reg_of (by kernel_rfl)) (by kernel_rfl)
theorem n45_15s : codeB Try.prog LL ⟨45, 14, b, ro⟩ n45_15 st = normS b ⟨[2], []⟩ .ret st := GE.ret_step (by kernel_rfl) (by kernel_rfl)
theorem n45_13s : codeB Try.prog E cx n45_13 st = thenS (codeB Try.prog E cx n45_14 st) (codeB Try.prog E cx n45_15) := GE.seq_step (by kernel_rfl)
theorem n45_17s : codeB Try.prog E ⟨f, 14, b, ro⟩ n45_17 st = plainS (runOps Try.prog E b q45_17 (ops [true, false, false, true, true, true, true, false] Try.f45) st) := GE.region_step (id := 5) (GE.reg_of (by kernel_rfl)) (by kernel_rfl)
theorem n45_20s : codeB Try.prog E ⟨f, 14, b, ro⟩ n45_20 st = plainS (runOps Try.prog E b q45_20 (ops [true, false, false, true, true, true, true, true, false, false] Try.f45) st) := GE.region_step (id := 6) (GE.reg_of (by kernel_rfl)) (by kernel_rfl)
theorem n45_21s : codeB Try.prog LL ⟨45, 14, b, ro⟩ n45_21 st = normS b ⟨[2], []⟩ .ret st := GE.ret_step (by kernel_rfl) (by kernel_rfl)
theorem n45_19s : codeB Try.prog E cx n45_19 st = thenS (codeB Try.prog E cx n45_20 st) (codeB Try.prog E cx n45_21) := GE.seq_step (by kernel_rfl)
theorem n45_22s : codeB Try.prog E cx n45_22 st = some (.normal, st) := GE.skip_step (by kernel_rfl)
theorem n45_18s : codeB Try.prog E cx n45_18 st = condS (codeB Try.prog E cx n45_19) (codeB Try.prog E cx n45_22) (lk st.σ 11) st := GE.cond_step (c := .tmp 11) (by kernel_rfl)
theorem n45_16s : codeB Try.prog E cx n45_16 st = thenS (codeB Try.prog E cx n45_17 st) (codeB Try.prog E cx n45_18) := GE.seq_step (by kernel_rfl)
theorem n45_12s : codeB Try.prog E cx n45_12 st = condS (codeB Try.prog E cx n45_13) (codeB Try.prog E cx n45_16) (lk st.σ 7) st := GE.cond_step (c := .tmp 7) (by kernel_rfl)
theorem n45_10s : codeB Try.prog E cx n45_10 st = thenS (codeB Try.prog E cx n45_11 st) (codeB Try.prog E cx n45_12) := GE.seq_step (by kernel_rfl)
theorem n45_6s : codeB Try.prog E cx n45_6 st = condS (codeB Try.prog E cx n45_7) (codeB Try.prog E cx n45_10) (lk st.σ 3) st := GE.cond_step (c := .tmp 3) (by kernel_rfl)
theorem n45_4s : codeB Try.prog E cx n45_4 st = thenS (codeB Try.prog E cx n45_5 st) (codeB Try.prog E cx n45_6) := GE.seq_step (by kernel_rfl)
theorem n45_3s : codeB Try.prog E cx n45_3 st = blockS 0 (codeB Try.prog E cx n45_4 st) st := GE.block_step (by kernel_rfl)
theorem n45_24s : codeB Try.prog E ⟨f, 14, b, ro⟩ n45_24 st = plainS (runOps Try.prog E b q45_24 (ops [true, true, false] Try.f45) st) := GE.region_step (id := 7) (GE.reg_of (by kernel_rfl)) (by kernel_rfl)
theorem n45_25s : codeB Try.prog LL ⟨45, 14, b, ro⟩ n45_25 st = normS b ⟨[2], []⟩ .ret st := GE.ret_step (by kernel_rfl) (by kernel_rfl)
theorem n45_23s : codeB Try.prog E cx n45_23 st = thenS (codeB Try.prog E cx n45_24 st) (codeB Try.prog E cx n45_25) := GE.seq_step (by kernel_rfl)
theorem n45_2s : codeB Try.prog E cx n45_2 st = thenS (codeB Try.prog E cx n45_3 st) (codeB Try.prog E cx n45_23) := GE.seq_step (by kernel_rfl)
theorem n45_0s : codeB Try.prog E cx n45_0 st = thenS (codeB Try.prog E cx n45_1 st) (codeB Try.prog E cx n45_2) := GE.seq_step (by kernel_rfl)
noncomputable def n56_0 : Code := bodyOf Try.f56
noncomputable def n56_1 : Code := cl n56_0
noncomputable def q56_1 : List Oper := opsOf n56_1
noncomputable def n56_2 : Code := cr n56_0
noncomputable def n56_3 : Code := cl n56_2
noncomputable def q56_3 : List Oper := opsOf n56_3
noncomputable def n56_4 : Code := cr n56_2
noncomputable def n56_5 : Code := cl n56_4
noncomputable def n56_6 : Code := cl n56_5
noncomputable def q56_6 : List Oper := opsOf n56_6
noncomputable def n56_7 : Code := cr n56_5
noncomputable def n56_8 : Code := cl n56_7
noncomputable def n56_9 : Code := cl n56_8
noncomputable def n56_10 : Code := cl n56_9
noncomputable def q56_10 : List Oper := opsOf n56_10
noncomputable def n56_11 : Code := cr n56_9
noncomputable def n56_12 : Code := cl n56_11
noncomputable def n56_13 : Code := cl n56_12
noncomputable def n56_14 : Code := cr n56_12
noncomputable def n56_15 : Code := cr n56_11
noncomputable def n56_16 : Code := cl n56_15
noncomputable def n56_17 : Code := cl n56_16
noncomputable def n56_18 : Code := cl n56_17
noncomputable def q56_18 : List Oper := opsOf n56_18
noncomputable def n56_19 : Code := cr n56_17
noncomputable def n56_20 : Code := cl n56_19
noncomputable def n56_21 : Code := cl n56_20
noncomputable def q56_21 : List Oper := opsOf n56_21
noncomputable def n56_22 : Code := cr n56_20
noncomputable def n56_23 : Code := cl n56_22
noncomputable def q56_23 : List Oper := opsOf n56_23
noncomputable def n56_24 : Code := cr n56_22
noncomputable def n56_25 : Code := cr n56_19
noncomputable def n56_26 : Code := cl n56_25
noncomputable def q56_26 : List Oper := opsOf n56_26
noncomputable def n56_27 : Code := cr n56_25
noncomputable def n56_28 : Code := cl n56_27
noncomputable def q56_28 : List Oper := opsOf n56_28
noncomputable def n56_29 : Code := cr n56_27
noncomputable def n56_30 : Code := cr n56_15
noncomputable def q56_30 : List Oper := opsOf n56_30
noncomputable def n56_31 : Code := cr n56_4
noncomputable def n56_32 : Code := cl n56_31
noncomputable def q56_32 : List Oper := opsOf n56_32
noncomputable def n56_33 : Code := cr n56_31
theorem body56 : Try.f56.body = some n56_0 := by kernel_rfl
theorem run56 (E : Ev) (args : List Value) (h : List Blk) (hl : args.length ≤ 33) : runB Try.prog E 56 args h = endS Try.prog [.cell 4 55] h.length (codeB Try.prog E ⟨56, 33, h.length, none⟩ n56_0 ⟨enumT 0 args, h, []⟩) := GE.run_step Try.func56 body56 (by kernel_rfl) (by decide) (by kernel_rfl) hl
theorem n56_1s : codeB Try.prog E ⟨f, 33, b, ro⟩ n56_1 st = plainS (runOps Try.prog E b q56_1 (ops [false] Try.f56) st) := GE.region_step (id := 0) (GE.reg_of (by kernel_rfl)) (by kernel_rfl)
theorem n56_3s : codeB Try.prog E ⟨f, 33, b, ro⟩ n56_3 st = plainS (runOps Try.prog E b q56_3 (ops [true, false] Try.f56) st) := GE.region_step (id := 1) (GE.reg_of (by kernel_rfl)) (by kernel_rfl)
theorem n56_6s : codeB Try.prog E ⟨f, 33, b, ro⟩ n56_6 st = plainS (runOps Try.prog E b q56_6 (ops [true, true, false, false] Try.f56) st) := GE.region_step (id := 2) (GE.reg_of (by kernel_rfl)) (by kernel_rfl)
theorem n56_10s : codeB Try.prog E ⟨f, 33, b, ro⟩ n56_10 st = plainS (runOps Try.prog E b q56_10 (ops [true, true, false, true, false, false, false] Try.f56) st) := GE.region_step (id := 3) (GE.reg_of (by kernel_rfl)) (by kernel_rfl)
theorem n56_13s : codeB Try.prog E cx n56_13 st = some (.normal, st) := GE.skip_step (by kernel_rfl)
theorem n56_14s : codeB Try.prog LL ⟨56, 33, b, ro⟩ n56_14 st = normS b ⟨[4, 5], []⟩ (.exit 0) st := GE.exit_step (by kernel_rfl) (by kernel_rfl)
theorem n56_12s : codeB Try.prog E cx n56_12 st = condS (codeB Try.prog E cx n56_13) (codeB Try.prog E cx n56_14) (lk st.σ 13) st := GE.cond_step (c := .tmp 13) (by kernel_rfl)
theorem n56_18s : codeB Try.prog E ⟨f, 33, b, ro⟩ n56_18 st = plainS (runOps Try.prog E b q56_18 (ops [true, true, false, true, false, false, true, true, false, false, false] Try.f56) st) := GE.region_step (id := 4) (GE.reg_of (by kernel_rfl)) (by kernel_rfl)
theorem n56_21s : codeB Try.prog E ⟨f, 33, b, ro⟩ n56_21 st = plainS (runOps Try.prog E b q56_21 (ops [true, true, false, true, false, false, true, true, false, false, true, false, false] Try.f56) st) := GE.region_step (id := 5) (GE.reg_of (by kernel_rfl)) (by kernel_rfl)
theorem n56_23s : codeB Try.prog E ⟨f, 33, b, ro⟩ n56_23 st = plainS (runOps Try.prog E b q56_23 (ops [true, true, false, true, false, false, true, true, false, false, true, false, true, false] Try.f56) st) := GE.region_step (id := 6) (GE.reg_of (by kernel_rfl)) (by kernel_rfl)
theorem n56_24s : codeB Try.prog E cx n56_24 st = some (.normal, st) := GE.skip_step (by kernel_rfl)
theorem n56_22s : codeB Try.prog E cx n56_22 st = condS (codeB Try.prog E cx n56_23) (codeB Try.prog E cx n56_24) (lk st.σ 18) st := GE.cond_step (c := .tmp 18) (by kernel_rfl)
theorem n56_20s : codeB Try.prog E cx n56_20 st = thenS (codeB Try.prog E cx n56_21 st) (codeB Try.prog E cx n56_22) := GE.seq_step (by kernel_rfl)
theorem n56_26s : codeB Try.prog E ⟨f, 33, b, ro⟩ n56_26 st = plainS (runOps Try.prog E b q56_26 (ops [true, true, false, true, false, false, true, true, false, false, true, true, false] Try.f56) st) := GE.region_step (id := 7) (GE.reg_of (by kernel_rfl)) (by kernel_rfl)
theorem n56_28s : codeB Try.prog E ⟨f, 33, b, ro⟩ n56_28 st = plainS (runOps Try.prog E b q56_28 (ops [true, true, false, true, false, false, true, true, false, false, true, true, true, false] Try.f56) st) := GE.region_step (id := 8) (GE.reg_of (by kernel_rfl)) (by kernel_rfl)
theorem n56_29s : codeB Try.prog E cx n56_29 st = some (.normal, st) := GE.skip_step (by kernel_rfl)
theorem n56_27s : codeB Try.prog E cx n56_27 st = condS (codeB Try.prog E cx n56_28) (codeB Try.prog E cx n56_29) (lk st.σ 26) st := GE.cond_step (c := .tmp 26) (by kernel_rfl)
theorem n56_25s : codeB Try.prog E cx n56_25 st = thenS (codeB Try.prog E cx n56_26 st) (codeB Try.prog E cx n56_27) := GE.seq_step (by kernel_rfl)
theorem n56_19s : codeB Try.prog E cx n56_19 st = thenS (codeB Try.prog E cx n56_20 st) (codeB Try.prog E cx n56_25) := GE.seq_step (by kernel_rfl)
theorem n56_17s : codeB Try.prog E cx n56_17 st = thenS (codeB Try.prog E cx n56_18 st) (codeB Try.prog E cx n56_19) := GE.seq_step (by kernel_rfl)
theorem n56_16s : codeB Try.prog E cx n56_16 st = blockS 1 (codeB Try.prog E cx n56_17 st) st := GE.block_step (by kernel_rfl)
theorem n56_30s : codeB Try.prog E ⟨f, 33, b, ro⟩ n56_30 st = plainS (runOps Try.prog E b q56_30 (ops [true, true, false, true, false, false, true, true, true] Try.f56) st) := GE.region_step (id := 9) (GE.reg_of (by kernel_rfl)) (by kernel_rfl)
theorem n56_15s : codeB Try.prog E cx n56_15 st = thenS (codeB Try.prog E cx n56_16 st) (codeB Try.prog E cx n56_30) := GE.seq_step (by kernel_rfl)
theorem n56_11s : codeB Try.prog E cx n56_11 st = thenS (codeB Try.prog E cx n56_12 st) (codeB Try.prog E cx n56_15) := GE.seq_step (by kernel_rfl)
theorem n56_9s : codeB Try.prog E cx n56_9 st = thenS (codeB Try.prog E cx n56_10 st) (codeB Try.prog E cx n56_11) := GE.seq_step (by kernel_rfl)
theorem n56_8k : LL.kp (⟨56, 33, b, ro⟩ : Cx).fn (4 * rid n56_9 + 3) = some ⟨[0, 1, 4, 5, 11, 12], [⟨0, 0, 2, true⟩]⟩ := by kernel_rfl
theorem n56_8s : codeB Try.prog LL ⟨56, 33, b, ro⟩ n56_8 st = headS b ⟨[0, 1, 4, 5, 11, 12], [⟨0, 0, 2, true⟩]⟩ st (lpB Try.prog LL ⟨56, 33, b, ro⟩ n56_8 n56_9) := GE.lpB_step (by kernel_rfl) (n56_8k b ro)
theorem n56_8g : LL.code ⟨56, 33, b, ro⟩ n56_8 st = headS b ⟨[0, 1, 4, 5, 11, 12], [⟨0, 0, 2, true⟩]⟩ st (lpB Try.prog LL ⟨56, 33, b, ro⟩ n56_8 n56_9) := GE.lpB_again (by kernel_rfl) (n56_8k b ro)
theorem n56_7s : codeB Try.prog E cx n56_7 st = blockS 0 (codeB Try.prog E cx n56_8 st) st := GE.block_step (by kernel_rfl)
theorem n56_5s : codeB Try.prog E cx n56_5 st = thenS (codeB Try.prog E cx n56_6 st) (codeB Try.prog E cx n56_7) := GE.seq_step (by kernel_rfl)
theorem n56_32s : codeB Try.prog E ⟨f, 33, b, ro⟩ n56_32 st = plainS (runOps Try.prog E b q56_32 (ops [true, true, true, false] Try.f56) st) := GE.region_step (id := 10) (GE.reg_of (by kernel_rfl)) (by kernel_rfl)
theorem n56_33s : codeB Try.prog LL ⟨56, 33, b, ro⟩ n56_33 st = normS b ⟨[4], []⟩ .ret st := GE.ret_step (by kernel_rfl) (by kernel_rfl)
theorem n56_31s : codeB Try.prog E cx n56_31 st = thenS (codeB Try.prog E cx n56_32 st) (codeB Try.prog E cx n56_33) := GE.seq_step (by kernel_rfl)
theorem n56_4s : codeB Try.prog E cx n56_4 st = thenS (codeB Try.prog E cx n56_5 st) (codeB Try.prog E cx n56_31) := GE.seq_step (by kernel_rfl)
theorem n56_2s : codeB Try.prog E cx n56_2 st = thenS (codeB Try.prog E cx n56_3 st) (codeB Try.prog E cx n56_4) := GE.seq_step (by kernel_rfl)
theorem n56_0s : codeB Try.prog E cx n56_0 st = thenS (codeB Try.prog E cx n56_1 st) (codeB Try.prog E cx n56_2) := GE.seq_step (by kernel_rfl)
noncomputable def n57_0 : Code := bodyOf Try.f57
noncomputable def n57_1 : Code := cl n57_0
noncomputable def q57_1 : List Oper := opsOf n57_1
noncomputable def n57_2 : Code := cr n57_0
noncomputable def n57_3 : Code := cl n57_2
noncomputable def q57_3 : List Oper := opsOf n57_3
noncomputable def n57_4 : Code := cr n57_2
theorem body57 : Try.f57.body = some n57_0 := by kernel_rfl
theorem run57 (E : Ev) (args : List Value) (h : List Blk) (hl : args.length ≤ 15) : runB Try.prog E 57 args h = endS Try.prog [.tmp 6] h.length (codeB Try.prog E ⟨57, 15, h.length, none⟩ n57_0 ⟨enumT 0 args, h, []⟩) := GE.run_step Try.func57 body57 (by kernel_rfl) (by decide) (by kernel_rfl) hl
theorem n57_1s : codeB Try.prog E ⟨f, 15, b, ro⟩ n57_1 st = plainS (runOps Try.prog E b q57_1 (ops [false] Try.f57) st) := GE.region_step (id := 0) (GE.reg_of (by kernel_rfl)) (by kernel_rfl)
theorem q57_3g3 : gd q57_3 3 = some 10 := by kernel_rfl
theorem n57_3s : codeB Try.prog E ⟨f, 15, b, ro⟩ n57_3 st = plainS (runOps Try.prog E b q57_3 (ops [true, false] Try.f57) st) := GE.region_step (id := 1) (GE.reg_of (by kernel_rfl)) (by kernel_rfl)
theorem n57_4s : codeB Try.prog LL ⟨57, 15, b, ro⟩ n57_4 st = normS b ⟨[6], []⟩ .ret st := GE.ret_step (by kernel_rfl) (by kernel_rfl)
theorem n57_2s : codeB Try.prog E cx n57_2 st = thenS (codeB Try.prog E cx n57_3 st) (codeB Try.prog E cx n57_4) := GE.seq_step (by kernel_rfl)
theorem n57_0s : codeB Try.prog E cx n57_0 st = thenS (codeB Try.prog E cx n57_1 st) (codeB Try.prog E cx n57_2) := GE.seq_step (by kernel_rfl)
noncomputable def n72_0 : Code := bodyOf Try.f72
noncomputable def n72_1 : Code := cl n72_0
noncomputable def q72_1 : List Oper := opsOf n72_1
noncomputable def n72_2 : Code := cr n72_0
noncomputable def n72_3 : Code := cl n72_2
noncomputable def n72_4 : Code := cl n72_3
noncomputable def q72_4 : List Oper := opsOf n72_4
noncomputable def n72_5 : Code := cr n72_3
noncomputable def n72_6 : Code := cl n72_5
noncomputable def q72_6 : List Oper := opsOf n72_6
noncomputable def n72_7 : Code := cr n72_5
noncomputable def n72_8 : Code := cl n72_7
noncomputable def n72_9 : Code := cl n72_8
noncomputable def q72_9 : List Oper := opsOf n72_9
noncomputable def n72_10 : Code := cr n72_8
noncomputable def n72_11 : Code := cr n72_7
noncomputable def n72_12 : Code := cr n72_2
noncomputable def n72_13 : Code := cl n72_12
noncomputable def n72_14 : Code := cl n72_13
noncomputable def q72_14 : List Oper := opsOf n72_14
noncomputable def n72_15 : Code := cr n72_13
noncomputable def n72_16 : Code := cl n72_15
noncomputable def n72_17 : Code := cl n72_16
noncomputable def q72_17 : List Oper := opsOf n72_17
noncomputable def n72_18 : Code := cr n72_16
noncomputable def n72_19 : Code := cr n72_15
noncomputable def n72_20 : Code := cr n72_12
noncomputable def n72_21 : Code := cl n72_20
noncomputable def q72_21 : List Oper := opsOf n72_21
noncomputable def n72_22 : Code := cr n72_20
noncomputable def n72_23 : Code := cl n72_22
noncomputable def n72_24 : Code := cl n72_23
noncomputable def q72_24 : List Oper := opsOf n72_24
noncomputable def n72_25 : Code := cr n72_23
noncomputable def n72_26 : Code := cl n72_25
noncomputable def n72_27 : Code := cl n72_26
noncomputable def n72_28 : Code := cl n72_27
noncomputable def q72_28 : List Oper := opsOf n72_28
noncomputable def n72_29 : Code := cr n72_27
noncomputable def n72_30 : Code := cl n72_29
noncomputable def n72_31 : Code := cl n72_30
noncomputable def n72_32 : Code := cr n72_30
noncomputable def n72_33 : Code := cr n72_29
noncomputable def n72_34 : Code := cl n72_33
noncomputable def n72_35 : Code := cl n72_34
noncomputable def n72_36 : Code := cl n72_35
noncomputable def q72_36 : List Oper := opsOf n72_36
noncomputable def n72_37 : Code := cr n72_35
noncomputable def n72_38 : Code := cl n72_37
noncomputable def n72_39 : Code := cl n72_38
noncomputable def n72_40 : Code := cl n72_39
noncomputable def q72_40 : List Oper := opsOf n72_40
noncomputable def n72_41 : Code := cr n72_39
noncomputable def n72_42 : Code := cl n72_41
noncomputable def n72_43 : Code := cl n72_42
noncomputable def q72_43 : List Oper := opsOf n72_43
noncomputable def n72_44 : Code := cr n72_42
noncomputable def n72_45 : Code := cr n72_41
noncomputable def n72_46 : Code := cl n72_45
noncomputable def q72_46 : List Oper := opsOf n72_46
noncomputable def n72_47 : Code := cr n72_45
noncomputable def n72_48 : Code := cl n72_47
noncomputable def n72_49 : Code := cl n72_48
noncomputable def q72_49 : List Oper := opsOf n72_49
noncomputable def n72_50 : Code := cr n72_48
noncomputable def n72_51 : Code := cr n72_47
noncomputable def n72_52 : Code := cr n72_37
noncomputable def q72_52 : List Oper := opsOf n72_52
noncomputable def n72_53 : Code := cr n72_33
noncomputable def q72_53 : List Oper := opsOf n72_53
noncomputable def n72_54 : Code := cr n72_22
noncomputable def n72_55 : Code := cl n72_54
noncomputable def q72_55 : List Oper := opsOf n72_55
noncomputable def n72_56 : Code := cr n72_54
theorem body72 : Try.f72.body = some n72_0 := by kernel_rfl
theorem run72 (E : Ev) (args : List Value) (h : List Blk) (hl : args.length ≤ 43) : runB Try.prog E 72 args h = endS Try.prog [.tmp 4] h.length (codeB Try.prog E ⟨72, 43, h.length, none⟩ n72_0 ⟨enumT 0 args, h, []⟩) := GE.run_step Try.func72 body72 (by kernel_rfl) (by decide) (by kernel_rfl) hl
theorem n72_1s : codeB Try.prog E ⟨f, 43, b, ro⟩ n72_1 st = plainS (runOps Try.prog E b q72_1 (ops [false] Try.f72) st) := GE.region_step (id := 0) (GE.reg_of (by kernel_rfl)) (by kernel_rfl)
theorem n72_4s : codeB Try.prog E ⟨f, 43, b, ro⟩ n72_4 st = plainS (runOps Try.prog E b q72_4 (ops [true, false, false] Try.f72) st) := GE.region_step (id := 1) (GE.reg_of (by kernel_rfl)) (by kernel_rfl)
theorem n72_6s : codeB Try.prog E ⟨f, 43, b, ro⟩ n72_6 st = plainS (runOps Try.prog E b q72_6 (ops [true, false, true, false] Try.f72) st) := GE.region_step (id := 2) (GE.reg_of (by kernel_rfl)) (by kernel_rfl)
theorem n72_9s : codeB Try.prog E ⟨f, 43, b, ro⟩ n72_9 st = plainS (runOps Try.prog E b q72_9 (ops [true, false, true, true, false, false] Try.f72) st) := GE.region_step (id := 3) (GE.reg_of (by kernel_rfl)) (by kernel_rfl)
theorem n72_10s : codeB Try.prog LL ⟨72, 43, b, ro⟩ n72_10 st = normS b ⟨[4], []⟩ .ret st := GE.ret_step (by kernel_rfl) (by kernel_rfl)
theorem n72_8s : codeB Try.prog E cx n72_8 st = thenS (codeB Try.prog E cx n72_9 st) (codeB Try.prog E cx n72_10) := GE.seq_step (by kernel_rfl)
theorem n72_11s : codeB Try.prog E cx n72_11 st = some (.normal, st) := GE.skip_step (by kernel_rfl)
theorem n72_7s : codeB Try.prog E cx n72_7 st = condS (codeB Try.prog E cx n72_8) (codeB Try.prog E cx n72_11) (lk st.σ 12) st := GE.cond_step (c := .tmp 12) (by kernel_rfl)
theorem n72_5s : codeB Try.prog E cx n72_5 st = thenS (codeB Try.prog E cx n72_6 st) (codeB Try.prog E cx n72_7) := GE.seq_step (by kernel_rfl)
theorem n72_3s : codeB Try.prog E cx n72_3 st = thenS (codeB Try.prog E cx n72_4 st) (codeB Try.prog E cx n72_5) := GE.seq_step (by kernel_rfl)
theorem n72_14s : codeB Try.prog E ⟨f, 43, b, ro⟩ n72_14 st = plainS (runOps Try.prog E b q72_14 (ops [true, true, false, false] Try.f72) st) := GE.region_step (id := 4) (GE.reg_of (by kernel_rfl)) (by kernel_rfl)
theorem n72_17s : codeB Try.prog E ⟨f, 43, b, ro⟩ n72_17 st = plainS (runOps Try.prog E b q72_17 (ops [true, true, false, true, false, false] Try.f72) st) := GE.region_step (id := 5) (GE.reg_of (by kernel_rfl)) (by kernel_rfl)
theorem n72_18s : codeB Try.prog LL ⟨72, 43, b, ro⟩ n72_18 st = normS b ⟨[4], []⟩ .ret st := GE.ret_step (by kernel_rfl) (by kernel_rfl)
theorem n72_16s : codeB Try.prog E cx n72_16 st = thenS (codeB Try.prog E cx n72_17 st) (codeB Try.prog E cx n72_18) := GE.seq_step (by kernel_rfl)
theorem n72_19s : codeB Try.prog E cx n72_19 st = some (.normal, st) := GE.skip_step (by kernel_rfl)
theorem n72_15s : codeB Try.prog E cx n72_15 st = condS (codeB Try.prog E cx n72_16) (codeB Try.prog E cx n72_19) (lk st.σ 18) st := GE.cond_step (c := .tmp 18) (by kernel_rfl)
theorem n72_13s : codeB Try.prog E cx n72_13 st = thenS (codeB Try.prog E cx n72_14 st) (codeB Try.prog E cx n72_15) := GE.seq_step (by kernel_rfl)
theorem n72_21s : codeB Try.prog E ⟨f, 43, b, ro⟩ n72_21 st = plainS (runOps Try.prog E b q72_21 (ops [true, true, true, false] Try.f72) st) := GE.region_step (id := 6) (GE.reg_of (by kernel_rfl)) (by kernel_rfl)
theorem n72_24s : codeB Try.prog E ⟨f, 43, b, ro⟩ n72_24 st = plainS (runOps Try.prog E b q72_24 (ops [true, true, true, true, false, false] Try.f72) st) := GE.region_step (id := 7) (GE.reg_of (by kernel_rfl)) (by kernel_rfl)
theorem n72_28s : codeB Try.prog E ⟨f, 43, b, ro⟩ n72_28 st = plainS (runOps Try.prog E b q72_28 (ops [true, true, true, true, false, true, false, false, false] Try.f72) st) := GE.region_step (id := 8) (GE.reg_of (by kernel_rfl)) (by kernel_rfl)
theorem n72_31s : codeB Try.prog E cx n72_31 st = some (.normal, st) := GE.skip_step (by kernel_rfl)
theorem n72_32s : codeB Try.prog LL ⟨72, 43, b, ro⟩ n72_32 st = normS b ⟨[], []⟩ (.exit 0) st := GE.exit_step (by kernel_rfl) (by kernel_rfl)
theorem n72_30s : codeB Try.prog E cx n72_30 st = condS (codeB Try.prog E cx n72_31) (codeB Try.prog E cx n72_32) (lk st.σ 22) st := GE.cond_step (c := .tmp 22) (by kernel_rfl)
theorem n72_36s : codeB Try.prog E ⟨f, 43, b, ro⟩ n72_36 st = plainS (runOps Try.prog E b q72_36 (ops [true, true, true, true, false, true, false, false, true, true, false, false, false] Try.f72) st) := GE.region_step (id := 9) (GE.reg_of (by kernel_rfl)) (by kernel_rfl)
theorem n72_40s : codeB Try.prog E ⟨f, 43, b, ro⟩ n72_40 st = plainS (runOps Try.prog E b q72_40 (ops [true, true, true, true, false, true, false, false, true, true, false, false, true, false, false, false] Try.f72) st) := GE.region_step (id := 10) (GE.reg_of (by kernel_rfl)) (by kernel_rfl)
theorem n72_43s : codeB Try.prog E ⟨f, 43, b, ro⟩ n72_43 st = plainS (runOps Try.prog E b q72_43 (ops [true, true, true, true, false, true, false, false, true, true, false, false, true, false, false, true, false, false] Try.f72) st) := GE.region_step (id := 11) (GE.reg_of (by kernel_rfl)) (by kernel_rfl)
theorem n72_44s : codeB Try.prog LL ⟨72, 43, b, ro⟩ n72_44 st = normS b ⟨[4], []⟩ .ret st := GE.ret_step (by kernel_rfl) (by kernel_rfl)
theorem n72_42s : codeB Try.prog E cx n72_42 st = thenS (codeB Try.prog E cx n72_43 st) (codeB Try.prog E cx n72_44) := GE.seq_step (by kernel_rfl)
theorem n72_46s : codeB Try.prog E ⟨f, 43, b, ro⟩ n72_46 st = plainS (runOps Try.prog E b q72_46 (ops [true, true, true, true, false, true, false, false, true, true, false, false, true, false, false, true, true, false] Try.f72) st) := GE.region_step (id := 12) (GE.reg_of (by kernel_rfl)) (by kernel_rfl)
theorem n72_49s : codeB Try.prog E ⟨f, 43, b, ro⟩ n72_49 st = plainS (runOps Try.prog E b q72_49 (ops [true, true, true, true, false, true, false, false, true, true, false, false, true, false, false, true, true, true, false, false] Try.f72) st) := GE.region_step (id := 13) (GE.reg_of (by kernel_rfl)) (by kernel_rfl)
theorem n72_50s : codeB Try.prog LL ⟨72, 43, b, ro⟩ n72_50 st = normS b ⟨[4], []⟩ .ret st := GE.ret_step (by kernel_rfl) (by kernel_rfl)
theorem n72_48s : codeB Try.prog E cx n72_48 st = thenS (codeB Try.prog E cx n72_49 st) (codeB Try.prog E cx n72_50) := GE.seq_step (by kernel_rfl)
theorem n72_51s : codeB Try.prog E cx n72_51 st = some (.normal, st) := GE.skip_step (by kernel_rfl)
theorem n72_47s : codeB Try.prog E cx n72_47 st = condS (codeB Try.prog E cx n72_48) (codeB Try.prog E cx n72_51) (lk st.σ 32) st := GE.cond_step (c := .tmp 32) (by kernel_rfl)
theorem n72_45s : codeB Try.prog E cx n72_45 st = thenS (codeB Try.prog E cx n72_46 st) (codeB Try.prog E cx n72_47) := GE.seq_step (by kernel_rfl)
theorem n72_41s : codeB Try.prog E cx n72_41 st = condS (codeB Try.prog E cx n72_42) (codeB Try.prog E cx n72_45) (lk st.σ 25) st := GE.cond_step (c := .tmp 25) (by kernel_rfl)
theorem n72_39s : codeB Try.prog E cx n72_39 st = thenS (codeB Try.prog E cx n72_40 st) (codeB Try.prog E cx n72_41) := GE.seq_step (by kernel_rfl)
theorem n72_38s : codeB Try.prog E cx n72_38 st = blockS 2 (codeB Try.prog E cx n72_39 st) st := GE.block_step (by kernel_rfl)
theorem n72_52s : codeB Try.prog E ⟨f, 43, b, ro⟩ n72_52 st = plainS (runOps Try.prog E b q72_52 (ops [true, true, true, true, false, true, false, false, true, true, false, false, true, true] Try.f72) st) := GE.region_step (id := 14) (GE.reg_of (by kernel_rfl)) (by kernel_rfl)
theorem n72_37s : codeB Try.prog E cx n72_37 st = thenS (codeB Try.prog E cx n72_38 st) (codeB Try.prog E cx n72_52) := GE.seq_step (by kernel_rfl)
theorem n72_35s : codeB Try.prog E cx n72_35 st = thenS (codeB Try.prog E cx n72_36 st) (codeB Try.prog E cx n72_37) := GE.seq_step (by kernel_rfl)
theorem n72_34s : codeB Try.prog E cx n72_34 st = blockS 1 (codeB Try.prog E cx n72_35 st) st := GE.block_step (by kernel_rfl)
theorem n72_53s : codeB Try.prog E ⟨f, 43, b, ro⟩ n72_53 st = plainS (runOps Try.prog E b q72_53 (ops [true, true, true, true, false, true, false, false, true, true, true] Try.f72) st) := GE.region_step (id := 15) (GE.reg_of (by kernel_rfl)) (by kernel_rfl)
theorem n72_33s : codeB Try.prog E cx n72_33 st = thenS (codeB Try.prog E cx n72_34 st) (codeB Try.prog E cx n72_53) := GE.seq_step (by kernel_rfl)
theorem n72_29s : codeB Try.prog E cx n72_29 st = thenS (codeB Try.prog E cx n72_30 st) (codeB Try.prog E cx n72_33) := GE.seq_step (by kernel_rfl)
theorem n72_27s : codeB Try.prog E cx n72_27 st = thenS (codeB Try.prog E cx n72_28 st) (codeB Try.prog E cx n72_29) := GE.seq_step (by kernel_rfl)
theorem n72_26k : LL.kp (⟨72, 43, b, ro⟩ : Cx).fn (4 * rid n72_27 + 3) = some ⟨[0, 6, 19, 20, 21], [⟨0, 0, 2, true⟩, ⟨19, 0, 1, true⟩]⟩ := by kernel_rfl
theorem n72_26s : codeB Try.prog LL ⟨72, 43, b, ro⟩ n72_26 st = headS b ⟨[0, 6, 19, 20, 21], [⟨0, 0, 2, true⟩, ⟨19, 0, 1, true⟩]⟩ st (lpB Try.prog LL ⟨72, 43, b, ro⟩ n72_26 n72_27) := GE.lpB_step (by kernel_rfl) (n72_26k b ro)
theorem n72_26g : LL.code ⟨72, 43, b, ro⟩ n72_26 st = headS b ⟨[0, 6, 19, 20, 21], [⟨0, 0, 2, true⟩, ⟨19, 0, 1, true⟩]⟩ st (lpB Try.prog LL ⟨72, 43, b, ro⟩ n72_26 n72_27) := GE.lpB_again (by kernel_rfl) (n72_26k b ro)
theorem n72_25s : codeB Try.prog E cx n72_25 st = blockS 0 (codeB Try.prog E cx n72_26 st) st := GE.block_step (by kernel_rfl)
theorem n72_23s : codeB Try.prog E cx n72_23 st = thenS (codeB Try.prog E cx n72_24 st) (codeB Try.prog E cx n72_25) := GE.seq_step (by kernel_rfl)
theorem n72_55s : codeB Try.prog E ⟨f, 43, b, ro⟩ n72_55 st = plainS (runOps Try.prog E b q72_55 (ops [true, true, true, true, true, false] Try.f72) st) := GE.region_step (id := 16) (GE.reg_of (by kernel_rfl)) (by kernel_rfl)
theorem n72_56s : codeB Try.prog LL ⟨72, 43, b, ro⟩ n72_56 st = normS b ⟨[4], []⟩ .ret st := GE.ret_step (by kernel_rfl) (by kernel_rfl)
theorem n72_54s : codeB Try.prog E cx n72_54 st = thenS (codeB Try.prog E cx n72_55 st) (codeB Try.prog E cx n72_56) := GE.seq_step (by kernel_rfl)
theorem n72_22s : codeB Try.prog E cx n72_22 st = thenS (codeB Try.prog E cx n72_23 st) (codeB Try.prog E cx n72_54) := GE.seq_step (by kernel_rfl)
theorem n72_20s : codeB Try.prog E cx n72_20 st = thenS (codeB Try.prog E cx n72_21 st) (codeB Try.prog E cx n72_22) := GE.seq_step (by kernel_rfl)
theorem n72_12s : codeB Try.prog E cx n72_12 st = thenS (codeB Try.prog E cx n72_13 st) (codeB Try.prog E cx n72_20) := GE.seq_step (by kernel_rfl)
theorem n72_2s : codeB Try.prog E cx n72_2 st = thenS (codeB Try.prog E cx n72_3 st) (codeB Try.prog E cx n72_12) := GE.seq_step (by kernel_rfl)
theorem n72_0s : codeB Try.prog E cx n72_0 st = thenS (codeB Try.prog E cx n72_1 st) (codeB Try.prog E cx n72_2) := GE.seq_step (by kernel_rfl)
noncomputable def n73_0 : Code := bodyOf Try.f73
noncomputable def n73_1 : Code := cl n73_0
noncomputable def q73_1 : List Oper := opsOf n73_1
noncomputable def n73_2 : Code := cr n73_0
noncomputable def n73_3 : Code := cl n73_2
noncomputable def n73_4 : Code := cl n73_3
noncomputable def q73_4 : List Oper := opsOf n73_4
noncomputable def n73_5 : Code := cr n73_3
noncomputable def n73_6 : Code := cl n73_5
noncomputable def n73_7 : Code := cl n73_6
noncomputable def n73_8 : Code := cl n73_7
noncomputable def q73_8 : List Oper := opsOf n73_8
noncomputable def n73_9 : Code := cr n73_7
noncomputable def n73_10 : Code := cl n73_9
noncomputable def n73_11 : Code := cl n73_10
noncomputable def n73_12 : Code := cr n73_10
noncomputable def n73_13 : Code := cr n73_9
noncomputable def n73_14 : Code := cl n73_13
noncomputable def n73_15 : Code := cl n73_14
noncomputable def n73_16 : Code := cl n73_15
noncomputable def q73_16 : List Oper := opsOf n73_16
noncomputable def n73_17 : Code := cr n73_15
noncomputable def n73_18 : Code := cl n73_17
noncomputable def q73_18 : List Oper := opsOf n73_18
noncomputable def n73_19 : Code := cr n73_17
noncomputable def n73_20 : Code := cl n73_19
noncomputable def n73_21 : Code := cl n73_20
noncomputable def n73_22 : Code := cl n73_21
noncomputable def n73_23 : Code := cl n73_22
noncomputable def q73_23 : List Oper := opsOf n73_23
noncomputable def n73_24 : Code := cr n73_22
noncomputable def n73_25 : Code := cl n73_24
noncomputable def n73_26 : Code := cr n73_24
noncomputable def n73_27 : Code := cr n73_21
noncomputable def n73_28 : Code := cl n73_27
noncomputable def n73_29 : Code := cl n73_28
noncomputable def n73_30 : Code := cl n73_29
noncomputable def q73_30 : List Oper := opsOf n73_30
noncomputable def n73_31 : Code := cr n73_29
noncomputable def n73_32 : Code := cl n73_31
noncomputable def n73_33 : Code := cl n73_32
noncomputable def q73_33 : List Oper := opsOf n73_33
noncomputable def n73_34 : Code := cr n73_32
noncomputable def n73_35 : Code := cr n73_31
noncomputable def n73_36 : Code := cr n73_27
noncomputable def q73_36 : List Oper := opsOf n73_36
noncomputable def n73_37 : Code := cr n73_13
noncomputable def q73_37 : List Oper := opsOf n73_37
noncomputable def n73_38 : Code := cr n73_2
noncomputable def n73_39 : Code := cl n73_38
noncomputable def q73_39 : List Oper := opsOf n73_39
noncomputable def n73_40 : Code := cr n73_38
theorem body73 : Try.f73.body = some n73_0 := by kernel_rfl
theorem run73 (E : Ev) (args : List Value) (h : List Blk) (hl : args.length ≤ 35) : runB Try.prog E 73 args h = endS Try.prog [.tmp 4, .tmp 5, .tmp 6] h.length (codeB Try.prog E ⟨73, 35, h.length, none⟩ n73_0 ⟨enumT 0 args, h, []⟩) := GE.run_step Try.func73 body73 (by kernel_rfl) (by decide) (by kernel_rfl) hl
theorem n73_1s : codeB Try.prog E ⟨f, 35, b, ro⟩ n73_1 st = plainS (runOps Try.prog E b q73_1 (ops [false] Try.f73) st) := GE.region_step (id := 0) (GE.reg_of (by kernel_rfl)) (by kernel_rfl)
theorem n73_4s : codeB Try.prog E ⟨f, 35, b, ro⟩ n73_4 st = plainS (runOps Try.prog E b q73_4 (ops [true, false, false] Try.f73) st) := GE.region_step (id := 1) (GE.reg_of (by kernel_rfl)) (by kernel_rfl)
theorem n73_8s : codeB Try.prog E ⟨f, 35, b, ro⟩ n73_8 st = plainS (runOps Try.prog E b q73_8 (ops [true, false, true, false, false, false] Try.f73) st) := GE.region_step (id := 2) (GE.reg_of (by kernel_rfl)) (by kernel_rfl)
theorem n73_11s : codeB Try.prog E cx n73_11 st = some (.normal, st) := GE.skip_step (by kernel_rfl)
theorem n73_12s : codeB Try.prog LL ⟨73, 35, b, ro⟩ n73_12 st = normS b ⟨[], []⟩ (.exit 0) st := GE.exit_step (by kernel_rfl) (by kernel_rfl)
theorem n73_10s : codeB Try.prog E cx n73_10 st = condS (codeB Try.prog E cx n73_11) (codeB Try.prog E cx n73_12) (lk st.σ 12) st := GE.cond_step (c := .tmp 12) (by kernel_rfl)
theorem n73_16s : codeB Try.prog E ⟨f, 35, b, ro⟩ n73_16 st = plainS (runOps Try.prog E b q73_16 (ops [true, false, true, false, false, true, true, false, false, false] Try.f73) st) := GE.region_step (id := 3) (GE.reg_of (by kernel_rfl)) (by kernel_rfl)
theorem n73_18s : codeB Try.prog E ⟨f, 35, b, ro⟩ n73_18 st = plainS (runOps Try.prog E b q73_18 (ops [true, false, true, false, false, true, true, false, false, true, false] Try.f73) st) := GE.region_step (id := 4) (GE.reg_of (by kernel_rfl)) (by kernel_rfl)
theorem n73_23s : codeB Try.prog E ⟨f, 35, b, ro⟩ n73_23 st = plainS (runOps Try.prog E b q73_23 (ops [true, false, true, false, false, true, true, false, false, true, true, false, false, false, false] Try.f73) st) := GE.region_step (id := 5) (GE.reg_of (by kernel_rfl)) (by kernel_rfl)
theorem n73_25s : codeB Try.prog E cx n73_25 st = some (.normal, st) := GE.skip_step (by kernel_rfl)
theorem n73_26s : codeB Try.prog LL ⟨73, 35, b, ro⟩ n73_26 st = normS b ⟨[0, 1, 10, 11], [⟨0, 0, 2, true⟩, ⟨1, 0, 1, true⟩]⟩ (.exit 2) st := GE.exit_step (by kernel_rfl) (by kernel_rfl)
theorem n73_24s : codeB Try.prog E cx n73_24 st = condS (codeB Try.prog E cx n73_25) (codeB Try.prog E cx n73_26) (lk st.σ 19) st := GE.cond_step (c := .tmp 19) (by kernel_rfl)
theorem n73_22s : codeB Try.prog E cx n73_22 st = thenS (codeB Try.prog E cx n73_23 st) (codeB Try.prog E cx n73_24) := GE.seq_step (by kernel_rfl)
theorem n73_30s : codeB Try.prog E ⟨f, 35, b, ro⟩ n73_30 st = drawS [0, 0, 0, 6, 14, 0, 0, 96, 224, 511] (runOpsF Try.prog E b q73_30 (ops [true, false, true, false, false, true, true, false, false, true, true, false, false, true, false, false, false] Try.f73) st) := GE.draw_step (id := 7) (GE.reg_of (by kernel_rfl)) (by kernel_rfl) (by kernel_rfl) (by kernel_rfl)
theorem n73_33s : codeB Try.prog E ⟨f, 35, b, ro⟩ n73_33 st = plainS (runOps Try.prog E b q73_33 (ops [true, false, true, false, false, true, true, false, false, true, true, false, false, true, false, false, true, false, false] Try.f73) st) := GE.region_step (id := 8) (GE.reg_of (by kernel_rfl)) (by kernel_rfl)
theorem n73_34s : codeB Try.prog LL ⟨73, 35, b, ro⟩ n73_34 st = normS b ⟨[4, 5, 6], []⟩ .ret st := GE.ret_step (by kernel_rfl) (by kernel_rfl)
theorem n73_32s : codeB Try.prog E cx n73_32 st = thenS (codeB Try.prog E cx n73_33 st) (codeB Try.prog E cx n73_34) := GE.seq_step (by kernel_rfl)
theorem n73_35s : codeB Try.prog E cx n73_35 st = some (.normal, st) := GE.skip_step (by kernel_rfl)
theorem n73_31s : codeB Try.prog E cx n73_31 st = condS (codeB Try.prog E cx n73_32) (codeB Try.prog E cx n73_35) (lk st.σ 31) st := GE.cond_step (c := .tmp 31) (by kernel_rfl)
theorem n73_29s : codeB Try.prog E cx n73_29 st = thenS (codeB Try.prog E cx n73_30 st) (codeB Try.prog E cx n73_31) := GE.seq_step (by kernel_rfl)
theorem n73_28s : codeB Try.prog E cx n73_28 st = blockS 3 (codeB Try.prog E cx n73_29 st) st := GE.block_step (by kernel_rfl)
theorem n73_36s : codeB Try.prog E ⟨f, 35, b, ro⟩ n73_36 st = plainS (runOps Try.prog E b q73_36 (ops [true, false, true, false, false, true, true, false, false, true, true, false, false, true, true] Try.f73) st) := GE.region_step (id := 6) (GE.reg_of (by kernel_rfl)) (by kernel_rfl)
theorem n73_27s : codeB Try.prog E cx n73_27 st = thenS (codeB Try.prog E cx n73_28 st) (codeB Try.prog E cx n73_36) := GE.seq_step (by kernel_rfl)
theorem n73_21s : codeB Try.prog E cx n73_21 st = thenS (codeB Try.prog E cx n73_22 st) (codeB Try.prog E cx n73_27) := GE.seq_step (by kernel_rfl)
theorem n73_20k : LL.kp (⟨73, 35, b, ro⟩ : Cx).fn (4 * rid n73_21 + 3) = some ⟨[7, 8, 0, 1, 10, 11], [⟨0, 0, 2, true⟩, ⟨1, 0, 1, true⟩]⟩ := by kernel_rfl
theorem n73_20s : codeB Try.prog LL ⟨73, 35, b, ro⟩ n73_20 st = headS b ⟨[7, 8, 0, 1, 10, 11], [⟨0, 0, 2, true⟩, ⟨1, 0, 1, true⟩]⟩ st (lpB Try.prog LL ⟨73, 35, b, ro⟩ n73_20 n73_21) := GE.lpB_step (by kernel_rfl) (n73_20k b ro)
theorem n73_20g : LL.code ⟨73, 35, b, ro⟩ n73_20 st = headS b ⟨[7, 8, 0, 1, 10, 11], [⟨0, 0, 2, true⟩, ⟨1, 0, 1, true⟩]⟩ st (lpB Try.prog LL ⟨73, 35, b, ro⟩ n73_20 n73_21) := GE.lpB_again (by kernel_rfl) (n73_20k b ro)
theorem n73_19s : codeB Try.prog E cx n73_19 st = blockS 2 (codeB Try.prog E cx n73_20 st) st := GE.block_step (by kernel_rfl)
theorem n73_17s : codeB Try.prog E cx n73_17 st = thenS (codeB Try.prog E cx n73_18 st) (codeB Try.prog E cx n73_19) := GE.seq_step (by kernel_rfl)
theorem n73_15s : codeB Try.prog E cx n73_15 st = thenS (codeB Try.prog E cx n73_16 st) (codeB Try.prog E cx n73_17) := GE.seq_step (by kernel_rfl)
theorem n73_14s : codeB Try.prog E cx n73_14 st = blockS 1 (codeB Try.prog E cx n73_15 st) st := GE.block_step (by kernel_rfl)
theorem n73_37s : codeB Try.prog E ⟨f, 35, b, ro⟩ n73_37 st = plainS (runOps Try.prog E b q73_37 (ops [true, false, true, false, false, true, true, true] Try.f73) st) := GE.region_step (id := 9) (GE.reg_of (by kernel_rfl)) (by kernel_rfl)
theorem n73_13s : codeB Try.prog E cx n73_13 st = thenS (codeB Try.prog E cx n73_14 st) (codeB Try.prog E cx n73_37) := GE.seq_step (by kernel_rfl)
theorem n73_9s : codeB Try.prog E cx n73_9 st = thenS (codeB Try.prog E cx n73_10 st) (codeB Try.prog E cx n73_13) := GE.seq_step (by kernel_rfl)
theorem n73_7s : codeB Try.prog E cx n73_7 st = thenS (codeB Try.prog E cx n73_8 st) (codeB Try.prog E cx n73_9) := GE.seq_step (by kernel_rfl)
theorem n73_6k : LL.kp (⟨73, 35, b, ro⟩ : Cx).fn (4 * rid n73_7 + 3) = some ⟨[0, 1, 10, 11], [⟨0, 0, 2, true⟩, ⟨1, 0, 1, true⟩]⟩ := by kernel_rfl
theorem n73_6s : codeB Try.prog LL ⟨73, 35, b, ro⟩ n73_6 st = headS b ⟨[0, 1, 10, 11], [⟨0, 0, 2, true⟩, ⟨1, 0, 1, true⟩]⟩ st (lpB Try.prog LL ⟨73, 35, b, ro⟩ n73_6 n73_7) := GE.lpB_step (by kernel_rfl) (n73_6k b ro)
theorem n73_6g : LL.code ⟨73, 35, b, ro⟩ n73_6 st = headS b ⟨[0, 1, 10, 11], [⟨0, 0, 2, true⟩, ⟨1, 0, 1, true⟩]⟩ st (lpB Try.prog LL ⟨73, 35, b, ro⟩ n73_6 n73_7) := GE.lpB_again (by kernel_rfl) (n73_6k b ro)
theorem n73_5s : codeB Try.prog E cx n73_5 st = blockS 0 (codeB Try.prog E cx n73_6 st) st := GE.block_step (by kernel_rfl)
theorem n73_3s : codeB Try.prog E cx n73_3 st = thenS (codeB Try.prog E cx n73_4 st) (codeB Try.prog E cx n73_5) := GE.seq_step (by kernel_rfl)
theorem n73_39s : codeB Try.prog E ⟨f, 35, b, ro⟩ n73_39 st = plainS (runOps Try.prog E b q73_39 (ops [true, true, false] Try.f73) st) := GE.region_step (id := 10) (GE.reg_of (by kernel_rfl)) (by kernel_rfl)
theorem n73_40s : codeB Try.prog LL ⟨73, 35, b, ro⟩ n73_40 st = normS b ⟨[4, 5, 6], []⟩ .ret st := GE.ret_step (by kernel_rfl) (by kernel_rfl)
theorem n73_38s : codeB Try.prog E cx n73_38 st = thenS (codeB Try.prog E cx n73_39 st) (codeB Try.prog E cx n73_40) := GE.seq_step (by kernel_rfl)
theorem n73_2s : codeB Try.prog E cx n73_2 st = thenS (codeB Try.prog E cx n73_3 st) (codeB Try.prog E cx n73_38) := GE.seq_step (by kernel_rfl)
theorem n73_0s : codeB Try.prog E cx n73_0 st = thenS (codeB Try.prog E cx n73_1 st) (codeB Try.prog E cx n73_2) := GE.seq_step (by kernel_rfl)
noncomputable def n74_0 : Code := bodyOf Try.f74
noncomputable def n74_1 : Code := cl n74_0
noncomputable def q74_1 : List Oper := opsOf n74_1
noncomputable def n74_2 : Code := cr n74_0
noncomputable def n74_3 : Code := cl n74_2
noncomputable def q74_3 : List Oper := opsOf n74_3
noncomputable def n74_4 : Code := cr n74_2
theorem body74 : Try.f74.body = some n74_0 := by kernel_rfl
theorem run74 (E : Ev) (args : List Value) (h : List Blk) (hl : args.length ≤ 9) : runB Try.prog E 74 args h = endS Try.prog [.tmp 4] h.length (codeB Try.prog E ⟨74, 9, h.length, none⟩ n74_0 ⟨enumT 0 args, h, []⟩) := GE.run_step Try.func74 body74 (by kernel_rfl) (by decide) (by kernel_rfl) hl
theorem n74_1s : codeB Try.prog E ⟨f, 9, b, ro⟩ n74_1 st = plainS (runOps Try.prog E b q74_1 (ops [false] Try.f74) st) := GE.region_step (id := 0) (GE.reg_of (by kernel_rfl)) (by kernel_rfl)
theorem n74_3s : codeB Try.prog E ⟨f, 9, b, ro⟩ n74_3 st = plainS (runOps Try.prog E b q74_3 (ops [true, false] Try.f74) st) := GE.region_step (id := 1) (GE.reg_of (by kernel_rfl)) (by kernel_rfl)
theorem n74_4s : codeB Try.prog LL ⟨74, 9, b, ro⟩ n74_4 st = normS b ⟨[4], []⟩ .ret st := GE.ret_step (by kernel_rfl) (by kernel_rfl)
theorem n74_2s : codeB Try.prog E cx n74_2 st = thenS (codeB Try.prog E cx n74_3 st) (codeB Try.prog E cx n74_4) := GE.seq_step (by kernel_rfl)
theorem n74_0s : codeB Try.prog E cx n74_0 st = thenS (codeB Try.prog E cx n74_1 st) (codeB Try.prog E cx n74_2) := GE.seq_step (by kernel_rfl)
noncomputable def n75_0 : Code := bodyOf Try.f75
noncomputable def n75_1 : Code := cl n75_0
noncomputable def q75_1 : List Oper := opsOf n75_1
noncomputable def n75_2 : Code := cr n75_0
noncomputable def n75_3 : Code := cl n75_2
noncomputable def q75_3 : List Oper := opsOf n75_3
noncomputable def n75_4 : Code := cr n75_2
theorem body75 : Try.f75.body = some n75_0 := by kernel_rfl
theorem run75 (E : Ev) (args : List Value) (h : List Blk) (hl : args.length ≤ 14) : runB Try.prog E 75 args h = endS Try.prog [.tmp 2] h.length (codeB Try.prog E ⟨75, 14, h.length, none⟩ n75_0 ⟨enumT 0 args, h, []⟩) := GE.run_step Try.func75 body75 (by kernel_rfl) (by decide) (by kernel_rfl) hl
theorem n75_1s : codeB Try.prog E ⟨f, 14, b, ro⟩ n75_1 st = plainS (runOps Try.prog E b q75_1 (ops [false] Try.f75) st) := GE.region_step (id := 0) (GE.reg_of (by kernel_rfl)) (by kernel_rfl)
theorem q75_3g6 : gd q75_3 6 = some 9 := by kernel_rfl
theorem n75_3s : codeB Try.prog E ⟨f, 14, b, ro⟩ n75_3 st = plainS (runOps Try.prog E b q75_3 (ops [true, false] Try.f75) st) := GE.region_step (id := 1) (GE.reg_of (by kernel_rfl)) (by kernel_rfl)
theorem n75_4s : codeB Try.prog LL ⟨75, 14, b, ro⟩ n75_4 st = normS b ⟨[2], []⟩ .ret st := GE.ret_step (by kernel_rfl) (by kernel_rfl)
theorem n75_2s : codeB Try.prog E cx n75_2 st = thenS (codeB Try.prog E cx n75_3 st) (codeB Try.prog E cx n75_4) := GE.seq_step (by kernel_rfl)
theorem n75_0s : codeB Try.prog E cx n75_0 st = thenS (codeB Try.prog E cx n75_1 st) (codeB Try.prog E cx n75_2) := GE.seq_step (by kernel_rfl)
noncomputable def n77_0 : Code := bodyOf Try.f77
noncomputable def n77_1 : Code := cl n77_0
noncomputable def q77_1 : List Oper := opsOf n77_1
noncomputable def n77_2 : Code := cr n77_0
noncomputable def n77_3 : Code := cl n77_2
noncomputable def q77_3 : List Oper := opsOf n77_3
noncomputable def n77_4 : Code := cr n77_2
theorem body77 : Try.f77.body = some n77_0 := by kernel_rfl
theorem run77 (E : Ev) (args : List Value) (h : List Blk) (hl : args.length ≤ 18) : runB Try.prog E 77 args h = endS Try.prog [.tmp 6] h.length (codeB Try.prog E ⟨77, 18, h.length, none⟩ n77_0 ⟨enumT 0 args, h, []⟩) := GE.run_step Try.func77 body77 (by kernel_rfl) (by decide) (by kernel_rfl) hl
theorem n77_1s : codeB Try.prog E ⟨f, 18, b, ro⟩ n77_1 st = plainS (runOps Try.prog E b q77_1 (ops [false] Try.f77) st) := GE.region_step (id := 0) (GE.reg_of (by kernel_rfl)) (by kernel_rfl)
theorem n77_3s : codeB Try.prog E ⟨f, 18, b, ro⟩ n77_3 st = drawS [0, 0, 3, 7, 15, 0, 0, 96, 224, 480, 1023, 2047] (runOpsF Try.prog E b q77_3 (ops [true, false] Try.f77) st) := GE.draw_step (id := 1) (GE.reg_of (by kernel_rfl)) (by kernel_rfl) (by kernel_rfl) (by kernel_rfl)
theorem n77_4s : codeB Try.prog LL ⟨77, 18, b, ro⟩ n77_4 st = normS b ⟨[6], []⟩ .ret st := GE.ret_step (by kernel_rfl) (by kernel_rfl)
theorem n77_2s : codeB Try.prog E cx n77_2 st = thenS (codeB Try.prog E cx n77_3 st) (codeB Try.prog E cx n77_4) := GE.seq_step (by kernel_rfl)
theorem n77_0s : codeB Try.prog E cx n77_0 st = thenS (codeB Try.prog E cx n77_1 st) (codeB Try.prog E cx n77_2) := GE.seq_step (by kernel_rfl)
noncomputable def n82_0 : Code := bodyOf Try.f82
noncomputable def n82_1 : Code := cl n82_0
noncomputable def q82_1 : List Oper := opsOf n82_1
noncomputable def n82_2 : Code := cr n82_0
noncomputable def n82_3 : Code := cl n82_2
noncomputable def n82_4 : Code := cl n82_3
noncomputable def q82_4 : List Oper := opsOf n82_4
noncomputable def n82_5 : Code := cr n82_3
noncomputable def n82_6 : Code := cl n82_5
noncomputable def n82_7 : Code := cl n82_6
noncomputable def n82_8 : Code := cl n82_7
noncomputable def q82_8 : List Oper := opsOf n82_8
noncomputable def n82_9 : Code := cr n82_7
noncomputable def n82_10 : Code := cl n82_9
noncomputable def n82_11 : Code := cl n82_10
noncomputable def n82_12 : Code := cr n82_10
noncomputable def n82_13 : Code := cr n82_9
noncomputable def n82_14 : Code := cl n82_13
noncomputable def n82_15 : Code := cl n82_14
noncomputable def n82_16 : Code := cl n82_15
noncomputable def q82_16 : List Oper := opsOf n82_16
noncomputable def n82_17 : Code := cr n82_15
noncomputable def n82_18 : Code := cl n82_17
noncomputable def q82_18 : List Oper := opsOf n82_18
noncomputable def n82_19 : Code := cr n82_17
noncomputable def n82_20 : Code := cl n82_19
noncomputable def n82_21 : Code := cl n82_20
noncomputable def q82_21 : List Oper := opsOf n82_21
noncomputable def n82_22 : Code := cr n82_20
noncomputable def n82_23 : Code := cr n82_19
noncomputable def n82_24 : Code := cr n82_13
noncomputable def q82_24 : List Oper := opsOf n82_24
noncomputable def n82_25 : Code := cr n82_2
noncomputable def n82_26 : Code := cl n82_25
noncomputable def q82_26 : List Oper := opsOf n82_26
noncomputable def n82_27 : Code := cr n82_25
theorem body82 : Try.f82.body = some n82_0 := by kernel_rfl
theorem run82 (E : Ev) (args : List Value) (h : List Blk) (hl : args.length ≤ 19) : runB Try.prog E 82 args h = endS Try.prog [.tmp 4] h.length (codeB Try.prog E ⟨82, 19, h.length, none⟩ n82_0 ⟨enumT 0 args, h, []⟩) := GE.run_step Try.func82 body82 (by kernel_rfl) (by decide) (by kernel_rfl) hl
theorem n82_1s : codeB Try.prog E ⟨f, 19, b, ro⟩ n82_1 st = plainS (runOps Try.prog E b q82_1 (ops [false] Try.f82) st) := GE.region_step (id := 0) (GE.reg_of (by kernel_rfl)) (by kernel_rfl)
theorem n82_4s : codeB Try.prog E ⟨f, 19, b, ro⟩ n82_4 st = plainS (runOps Try.prog E b q82_4 (ops [true, false, false] Try.f82) st) := GE.region_step (id := 1) (GE.reg_of (by kernel_rfl)) (by kernel_rfl)
theorem n82_8s : codeB Try.prog E ⟨f, 19, b, ro⟩ n82_8 st = plainS (runOps Try.prog E b q82_8 (ops [true, false, true, false, false, false] Try.f82) st) := GE.region_step (id := 2) (GE.reg_of (by kernel_rfl)) (by kernel_rfl)
theorem n82_11s : codeB Try.prog E cx n82_11 st = some (.normal, st) := GE.skip_step (by kernel_rfl)
theorem n82_12s : codeB Try.prog LL ⟨82, 19, b, ro⟩ n82_12 st = normS b ⟨[], []⟩ (.exit 0) st := GE.exit_step (by kernel_rfl) (by kernel_rfl)
theorem n82_10s : codeB Try.prog E cx n82_10 st = condS (codeB Try.prog E cx n82_11) (codeB Try.prog E cx n82_12) (lk st.σ 9) st := GE.cond_step (c := .tmp 9) (by kernel_rfl)
theorem n82_16s : codeB Try.prog E ⟨f, 19, b, ro⟩ n82_16 st = plainS (runOps Try.prog E b q82_16 (ops [true, false, true, false, false, true, true, false, false, false] Try.f82) st) := GE.region_step (id := 3) (GE.reg_of (by kernel_rfl)) (by kernel_rfl)
theorem n82_18s : codeB Try.prog E ⟨f, 19, b, ro⟩ n82_18 st = plainS (runOps Try.prog E b q82_18 (ops [true, false, true, false, false, true, true, false, false, true, false] Try.f82) st) := GE.region_step (id := 4) (GE.reg_of (by kernel_rfl)) (by kernel_rfl)
theorem n82_21s : codeB Try.prog E ⟨f, 19, b, ro⟩ n82_21 st = plainS (runOps Try.prog E b q82_21 (ops [true, false, true, false, false, true, true, false, false, true, true, false, false] Try.f82) st) := GE.region_step (id := 5) (GE.reg_of (by kernel_rfl)) (by kernel_rfl)
theorem n82_22s : codeB Try.prog LL ⟨82, 19, b, ro⟩ n82_22 st = normS b ⟨[4], []⟩ .ret st := GE.ret_step (by kernel_rfl) (by kernel_rfl)
theorem n82_20s : codeB Try.prog E cx n82_20 st = thenS (codeB Try.prog E cx n82_21 st) (codeB Try.prog E cx n82_22) := GE.seq_step (by kernel_rfl)
theorem n82_23s : codeB Try.prog E cx n82_23 st = some (.normal, st) := GE.skip_step (by kernel_rfl)
theorem n82_19s : codeB Try.prog E cx n82_19 st = condS (codeB Try.prog E cx n82_20) (codeB Try.prog E cx n82_23) (lk st.σ 16) st := GE.cond_step (c := .tmp 16) (by kernel_rfl)
theorem n82_17s : codeB Try.prog E cx n82_17 st = thenS (codeB Try.prog E cx n82_18 st) (codeB Try.prog E cx n82_19) := GE.seq_step (by kernel_rfl)
theorem n82_15s : codeB Try.prog E cx n82_15 st = thenS (codeB Try.prog E cx n82_16 st) (codeB Try.prog E cx n82_17) := GE.seq_step (by kernel_rfl)
theorem n82_14s : codeB Try.prog E cx n82_14 st = blockS 1 (codeB Try.prog E cx n82_15 st) st := GE.block_step (by kernel_rfl)
theorem n82_24s : codeB Try.prog E ⟨f, 19, b, ro⟩ n82_24 st = plainS (runOps Try.prog E b q82_24 (ops [true, false, true, false, false, true, true, true] Try.f82) st) := GE.region_step (id := 6) (GE.reg_of (by kernel_rfl)) (by kernel_rfl)
theorem n82_13s : codeB Try.prog E cx n82_13 st = thenS (codeB Try.prog E cx n82_14 st) (codeB Try.prog E cx n82_24) := GE.seq_step (by kernel_rfl)
theorem n82_9s : codeB Try.prog E cx n82_9 st = thenS (codeB Try.prog E cx n82_10 st) (codeB Try.prog E cx n82_13) := GE.seq_step (by kernel_rfl)
theorem n82_7s : codeB Try.prog E cx n82_7 st = thenS (codeB Try.prog E cx n82_8 st) (codeB Try.prog E cx n82_9) := GE.seq_step (by kernel_rfl)
theorem n82_6k : LL.kp (⟨82, 19, b, ro⟩ : Cx).fn (4 * rid n82_7 + 3) = some ⟨[0, 1, 7, 8], [⟨0, 0, 2, true⟩]⟩ := by kernel_rfl
theorem n82_6s : codeB Try.prog LL ⟨82, 19, b, ro⟩ n82_6 st = headS b ⟨[0, 1, 7, 8], [⟨0, 0, 2, true⟩]⟩ st (lpB Try.prog LL ⟨82, 19, b, ro⟩ n82_6 n82_7) := GE.lpB_step (by kernel_rfl) (n82_6k b ro)
theorem n82_6g : LL.code ⟨82, 19, b, ro⟩ n82_6 st = headS b ⟨[0, 1, 7, 8], [⟨0, 0, 2, true⟩]⟩ st (lpB Try.prog LL ⟨82, 19, b, ro⟩ n82_6 n82_7) := GE.lpB_again (by kernel_rfl) (n82_6k b ro)
theorem n82_5s : codeB Try.prog E cx n82_5 st = blockS 0 (codeB Try.prog E cx n82_6 st) st := GE.block_step (by kernel_rfl)
theorem n82_3s : codeB Try.prog E cx n82_3 st = thenS (codeB Try.prog E cx n82_4 st) (codeB Try.prog E cx n82_5) := GE.seq_step (by kernel_rfl)
theorem n82_26s : codeB Try.prog E ⟨f, 19, b, ro⟩ n82_26 st = plainS (runOps Try.prog E b q82_26 (ops [true, true, false] Try.f82) st) := GE.region_step (id := 7) (GE.reg_of (by kernel_rfl)) (by kernel_rfl)
theorem n82_27s : codeB Try.prog LL ⟨82, 19, b, ro⟩ n82_27 st = normS b ⟨[4], []⟩ .ret st := GE.ret_step (by kernel_rfl) (by kernel_rfl)
theorem n82_25s : codeB Try.prog E cx n82_25 st = thenS (codeB Try.prog E cx n82_26 st) (codeB Try.prog E cx n82_27) := GE.seq_step (by kernel_rfl)
theorem n82_2s : codeB Try.prog E cx n82_2 st = thenS (codeB Try.prog E cx n82_3 st) (codeB Try.prog E cx n82_25) := GE.seq_step (by kernel_rfl)
theorem n82_0s : codeB Try.prog E cx n82_0 st = thenS (codeB Try.prog E cx n82_1 st) (codeB Try.prog E cx n82_2) := GE.seq_step (by kernel_rfl)
theorem lk_22 : lenK Try.prog 22 = some .sl := by kernel_rfl
theorem es_22 : elemK Try.prog 22 = some (none, 2) := by kernel_rfl
theorem ia_55 : aggK Try.prog 55 = some (true, 2) := by kernel_rfl
theorem za_55 : zeroA Try.prog 55 = some (.agg #[(.int .i64 (0)), (.int .i64 (0))]) := by kernel_rfl
theorem sz_55 : aggSize Try.prog 55 = some 2 := by kernel_rfl
theorem fa_55_0 : fieldAt Try.prog 55 0 = some (0, 1) := by kernel_rfl
theorem ia_3 : aggK Try.prog 3 = some (false, 1) := by kernel_rfl
theorem es_24 : elemK Try.prog 24 = some (none, 1) := by kernel_rfl
theorem sz_3 : aggSize Try.prog 3 = some 1 := by kernel_rfl
theorem lk_53 : lenK Try.prog 53 = some .sl := by kernel_rfl
theorem es_53 : elemK Try.prog 53 = some (none, 1) := by kernel_rfl
theorem ia_5 : aggK Try.prog 5 = some (false, 1) := by kernel_rfl
theorem cv_5_3 : convK Try.prog 5 3 = some .i64 := by kernel_rfl
theorem fa_55_1 : fieldAt Try.prog 55 1 = some (1, 1) := by kernel_rfl
theorem ze_24 : zeroE Try.prog 24 = some (.int .i64 (0)) := by kernel_rfl
theorem ba_24_1 : baseArr (Value.cells (.int .i64 (0))) (1 * 1) = #[(.int .i64 (0))] := by kernel_rfl
theorem ap_24 : apK Try.prog 24 = some (1, 8) := by kernel_rfl
theorem ni_24 : notInt Try.prog 24 = true := by kernel_rfl
theorem lk_24 : lenK Try.prog 24 = some .sl := by kernel_rfl
theorem ze_22 : zeroE Try.prog 22 = some (.agg #[(.int .i64 (0)), (.int .i64 (0))]) := by kernel_rfl
theorem ba_22_1 : baseArr (Value.cells (.agg #[(.int .i64 (0)), (.int .i64 (0))])) (1 * 2) = #[(.int .i64 (0)), (.int .i64 (0))] := by kernel_rfl
theorem ap_22 : apK Try.prog 22 = some (2, 16) := by kernel_rfl
theorem ni_22 : notInt Try.prog 22 = true := by kernel_rfl
theorem lk_47 : lenK Try.prog 47 = some .sl := by kernel_rfl
theorem es_47 : elemK Try.prog 47 = some (none, 2) := by kernel_rfl
theorem ea_60 : elemK Try.prog 60 = some (some 2, 1) := by kernel_rfl
theorem pl_55 : plK Try.prog 55 = some [(0, 1), (1, 1)] := by kernel_rfl
theorem ba_24_2 : baseArr (Value.cells (.int .i64 (0))) (2 * 1) = #[(.int .i64 (0)), (.int .i64 (0))] := by kernel_rfl
theorem lk_78 : lenK Try.prog 78 = some .sl := by kernel_rfl
theorem es_78 : elemK Try.prog 78 = some (none, 2) := by kernel_rfl

end Go.Proofs.Ytfccmddkblbeoaa.rk
