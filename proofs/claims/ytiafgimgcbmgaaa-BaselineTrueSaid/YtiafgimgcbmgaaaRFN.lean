/-
  Names for the nodes of the code of some functions (projections of their bodies), the step of each node, and the facts of types that they use.
-/
import Derived.Test.YtiafgimgcbmgaaaKp
namespace Go.Proofs.Ytiafgimgcbmgaaa.bl
open Go.GE
set_option maxRecDepth 100000
variable (E : Ev) (cx : Cx) (st : St) (f nt b : Nat) (ro : Option Nat)
noncomputable def n9_0 : Code := bodyOf Try.f9
noncomputable def n9_1 : Code := cl n9_0
noncomputable def q9_1 : List Oper := opsOf n9_1
noncomputable def n9_2 : Code := cr n9_0
noncomputable def n9_3 : Code := cl n9_2
noncomputable def q9_3 : List Oper := opsOf n9_3
noncomputable def n9_4 : Code := cr n9_2
noncomputable def n9_5 : Code := cl n9_4
noncomputable def q9_5 : List Oper := opsOf n9_5
noncomputable def n9_6 : Code := cr n9_4
noncomputable def n9_7 : Code := cl n9_6
noncomputable def q9_7 : List Oper := opsOf n9_7
noncomputable def n9_8 : Code := cr n9_6
noncomputable def n9_9 : Code := cl n9_8
noncomputable def q9_9 : List Oper := opsOf n9_9
noncomputable def n9_10 : Code := cr n9_8
noncomputable def n9_11 : Code := cl n9_10
noncomputable def n9_12 : Code := cl n9_11
noncomputable def q9_12 : List Oper := opsOf n9_12
noncomputable def n9_13 : Code := cr n9_11
noncomputable def n9_14 : Code := cl n9_13
noncomputable def n9_15 : Code := cl n9_14
noncomputable def n9_16 : Code := cl n9_15
noncomputable def q9_16 : List Oper := opsOf n9_16
noncomputable def n9_17 : Code := cr n9_15
noncomputable def n9_18 : Code := cl n9_17
noncomputable def n9_19 : Code := cl n9_18
noncomputable def n9_20 : Code := cr n9_18
noncomputable def n9_21 : Code := cr n9_17
noncomputable def n9_22 : Code := cl n9_21
noncomputable def n9_23 : Code := cl n9_22
noncomputable def n9_24 : Code := cl n9_23
noncomputable def q9_24 : List Oper := opsOf n9_24
noncomputable def n9_25 : Code := cr n9_23
noncomputable def n9_26 : Code := cl n9_25
noncomputable def q9_26 : List Oper := opsOf n9_26
noncomputable def n9_27 : Code := cr n9_25
noncomputable def n9_28 : Code := cl n9_27
noncomputable def n9_29 : Code := cl n9_28
noncomputable def q9_29 : List Oper := opsOf n9_29
noncomputable def n9_30 : Code := cr n9_28
noncomputable def n9_31 : Code := cl n9_30
noncomputable def n9_32 : Code := cr n9_30
noncomputable def n9_33 : Code := cr n9_27
noncomputable def n9_34 : Code := cl n9_33
noncomputable def q9_34 : List Oper := opsOf n9_34
noncomputable def n9_35 : Code := cr n9_33
noncomputable def n9_36 : Code := cl n9_35
noncomputable def n9_37 : Code := cl n9_36
noncomputable def q9_37 : List Oper := opsOf n9_37
noncomputable def n9_38 : Code := cr n9_36
noncomputable def q9_38 : List Oper := opsOf n9_38
noncomputable def n9_39 : Code := cr n9_35
noncomputable def q9_39 : List Oper := opsOf n9_39
noncomputable def n9_40 : Code := cr n9_21
noncomputable def q9_40 : List Oper := opsOf n9_40
noncomputable def n9_41 : Code := cr n9_10
noncomputable def n9_42 : Code := cl n9_41
noncomputable def q9_42 : List Oper := opsOf n9_42
noncomputable def n9_43 : Code := cr n9_41
noncomputable def n9_44 : Code := cl n9_43
noncomputable def n9_45 : Code := cl n9_44
noncomputable def q9_45 : List Oper := opsOf n9_45
noncomputable def n9_46 : Code := cr n9_44
noncomputable def n9_47 : Code := cl n9_46
noncomputable def n9_48 : Code := cl n9_47
noncomputable def n9_49 : Code := cl n9_48
noncomputable def q9_49 : List Oper := opsOf n9_49
noncomputable def n9_50 : Code := cr n9_48
noncomputable def n9_51 : Code := cl n9_50
noncomputable def n9_52 : Code := cl n9_51
noncomputable def n9_53 : Code := cr n9_51
noncomputable def n9_54 : Code := cr n9_50
noncomputable def n9_55 : Code := cl n9_54
noncomputable def n9_56 : Code := cl n9_55
noncomputable def n9_57 : Code := cl n9_56
noncomputable def q9_57 : List Oper := opsOf n9_57
noncomputable def n9_58 : Code := cr n9_56
noncomputable def n9_59 : Code := cl n9_58
noncomputable def n9_60 : Code := cl n9_59
noncomputable def q9_60 : List Oper := opsOf n9_60
noncomputable def n9_61 : Code := cr n9_59
noncomputable def n9_62 : Code := cl n9_61
noncomputable def n9_63 : Code := cr n9_61
noncomputable def n9_64 : Code := cr n9_58
noncomputable def n9_65 : Code := cl n9_64
noncomputable def q9_65 : List Oper := opsOf n9_65
noncomputable def n9_66 : Code := cr n9_64
noncomputable def n9_67 : Code := cl n9_66
noncomputable def q9_67 : List Oper := opsOf n9_67
noncomputable def n9_68 : Code := cr n9_66
noncomputable def n9_69 : Code := cl n9_68
noncomputable def q9_69 : List Oper := opsOf n9_69
noncomputable def n9_70 : Code := cr n9_68
noncomputable def q9_70 : List Oper := opsOf n9_70
noncomputable def n9_71 : Code := cr n9_54
noncomputable def q9_71 : List Oper := opsOf n9_71
noncomputable def n9_72 : Code := cr n9_43
noncomputable def n9_73 : Code := cl n9_72
noncomputable def n9_74 : Code := cl n9_73
noncomputable def q9_74 : List Oper := opsOf n9_74
noncomputable def n9_75 : Code := cr n9_73
noncomputable def n9_76 : Code := cl n9_75
noncomputable def n9_77 : Code := cl n9_76
noncomputable def q9_77 : List Oper := opsOf n9_77
noncomputable def n9_78 : Code := cr n9_76
noncomputable def n9_79 : Code := cr n9_75
noncomputable def n9_80 : Code := cr n9_72
noncomputable def n9_81 : Code := cl n9_80
noncomputable def q9_81 : List Oper := opsOf n9_81
noncomputable def n9_82 : Code := cr n9_80
noncomputable def n9_83 : Code := cl n9_82
noncomputable def n9_84 : Code := cl n9_83
noncomputable def q9_84 : List Oper := opsOf n9_84
noncomputable def n9_85 : Code := cr n9_83
noncomputable def n9_86 : Code := cl n9_85
noncomputable def n9_87 : Code := cl n9_86
noncomputable def q9_87 : List Oper := opsOf n9_87
noncomputable def n9_88 : Code := cr n9_86
noncomputable def n9_89 : Code := cr n9_85
noncomputable def n9_90 : Code := cr n9_82
noncomputable def n9_91 : Code := cl n9_90
noncomputable def n9_92 : Code := cl n9_91
noncomputable def q9_92 : List Oper := opsOf n9_92
noncomputable def n9_93 : Code := cr n9_91
noncomputable def n9_94 : Code := cl n9_93
noncomputable def n9_95 : Code := cl n9_94
noncomputable def n9_96 : Code := cl n9_95
noncomputable def q9_96 : List Oper := opsOf n9_96
noncomputable def n9_97 : Code := cr n9_95
noncomputable def n9_98 : Code := cl n9_97
noncomputable def n9_99 : Code := cl n9_98
noncomputable def n9_100 : Code := cr n9_98
noncomputable def n9_101 : Code := cr n9_97
noncomputable def n9_102 : Code := cl n9_101
noncomputable def n9_103 : Code := cl n9_102
noncomputable def n9_104 : Code := cl n9_103
noncomputable def q9_104 : List Oper := opsOf n9_104
noncomputable def n9_105 : Code := cr n9_103
noncomputable def n9_106 : Code := cl n9_105
noncomputable def q9_106 : List Oper := opsOf n9_106
noncomputable def n9_107 : Code := cr n9_105
noncomputable def n9_108 : Code := cl n9_107
noncomputable def q9_108 : List Oper := opsOf n9_108
noncomputable def n9_109 : Code := cr n9_107
noncomputable def n9_110 : Code := cl n9_109
noncomputable def n9_111 : Code := cl n9_110
noncomputable def q9_111 : List Oper := opsOf n9_111
noncomputable def n9_112 : Code := cr n9_110
noncomputable def n9_113 : Code := cr n9_109
noncomputable def n9_114 : Code := cr n9_101
noncomputable def q9_114 : List Oper := opsOf n9_114
noncomputable def n9_115 : Code := cr n9_90
noncomputable def n9_116 : Code := cl n9_115
noncomputable def q9_116 : List Oper := opsOf n9_116
noncomputable def n9_117 : Code := cr n9_115
theorem body9 : Try.f9.body = some n9_0 := by kernel_rfl
theorem run9 (E : Ev) (args : List Value) (h : List Blk) (hl : args.length ≤ 175) : runB Try.prog E 9 args h = endS Try.prog [.tmp 10] h.length (codeB Try.prog E ⟨9, 175, h.length, none⟩ n9_0 ⟨enumT 0 args, h, []⟩) := GE.run_step Try.func9 body9 (by kernel_rfl) (by decide) (by kernel_rfl) hl
theorem n9_1s : codeB Try.prog E ⟨f, 175, b, ro⟩ n9_1 st = plainS (runOps Try.prog E b q9_1 (ops [false] Try.f9) st) := GE.region_step (id := 0) (GE.reg_of (by kernel_rfl)) (by kernel_rfl)
theorem n9_3s : codeB Try.prog E ⟨f, 175, b, ro⟩ n9_3 st = plainS (runOps Try.prog E b q9_3 (ops [true, false] Try.f9) st) := GE.region_step (id := 1) (GE.reg_of (by kernel_rfl)) (by kernel_rfl)
theorem n9_5s : codeB Try.prog E ⟨f, 175, b, ro⟩ n9_5 st = plainS (runOps Try.prog E b q9_5 (ops [true, true, false] Try.f9) st) := GE.region_step (id := 2) (GE.reg_of (by kernel_rfl)) (by kernel_rfl)
theorem n9_7s : codeB Try.prog E ⟨f, 175, b, ro⟩ n9_7 st = plainS (runOps Try.prog E b q9_7 (ops [true, true, true, false] Try.f9) st) := GE.region_step (id := 3) (GE.reg_of (by kernel_rfl)) (by kernel_rfl)
theorem n9_9s : codeB Try.prog E ⟨f, 175, b, ro⟩ n9_9 st = plainS (runOps Try.prog E b q9_9 (ops [true, true, true, true, false] Try.f9) st) := GE.region_step (id := 4) (GE.reg_of (by kernel_rfl)) (by kernel_rfl)
theorem n9_12s : codeB Try.prog E ⟨f, 175, b, ro⟩ n9_12 st = plainS (runOps Try.prog E b q9_12 (ops [true, true, true, true, true, false, false] Try.f9) st) := GE.region_step (id := 5) (GE.reg_of (by kernel_rfl)) (by kernel_rfl)
theorem n9_16s : codeB Try.prog E ⟨f, 175, b, ro⟩ n9_16 st = plainS (runOps Try.prog E b q9_16 (ops [true, true, true, true, true, false, true, false, false, false] Try.f9) st) := GE.region_step (id := 6) (GE.reg_of (by kernel_rfl)) (by kernel_rfl)
theorem n9_19s : codeB Try.prog E cx n9_19 st = some (.normal, st) := GE.skip_step (by kernel_rfl)
theorem n9_20s : codeB Try.prog LL ⟨9, 175, b, ro⟩ n9_20 st = normS b ⟨[4, 11, 12, 14], [⟨4, 0, 2, true⟩, ⟨11, 2, 3, true⟩, ⟨14, 0, 1, true⟩]⟩ (.exit 0) st := GE.exit_step (by kernel_rfl) (by kernel_rfl)
theorem n9_18s : codeB Try.prog E cx n9_18 st = condS (codeB Try.prog E cx n9_19) (codeB Try.prog E cx n9_20) (lk st.σ 35) st := GE.cond_step (c := .tmp 35) (by kernel_rfl)
theorem n9_24s : codeB Try.prog E ⟨f, 175, b, ro⟩ n9_24 st = plainS (runOps Try.prog E b q9_24 (ops [true, true, true, true, true, false, true, false, false, true, true, false, false, false] Try.f9) st) := GE.region_step (id := 7) (GE.reg_of (by kernel_rfl)) (by kernel_rfl)
theorem n9_26s : codeB Try.prog E ⟨f, 175, b, ro⟩ n9_26 st = plainS (runOps Try.prog E b q9_26 (ops [true, true, true, true, true, false, true, false, false, true, true, false, false, true, false] Try.f9) st) := GE.region_step (id := 8) (GE.reg_of (by kernel_rfl)) (by kernel_rfl)
theorem n9_29s : codeB Try.prog E ⟨f, 175, b, ro⟩ n9_29 st = plainS (runOps Try.prog E b q9_29 (ops [true, true, true, true, true, false, true, false, false, true, true, false, false, true, true, false, false] Try.f9) st) := GE.region_step (id := 9) (GE.reg_of (by kernel_rfl)) (by kernel_rfl)
theorem n9_31s : codeB Try.prog LL ⟨9, 175, b, ro⟩ n9_31 st = normS b ⟨[4, 11, 12, 14], [⟨4, 0, 2, true⟩, ⟨11, 2, 3, true⟩, ⟨14, 0, 1, true⟩]⟩ (.exit 0) st := GE.exit_step (by kernel_rfl) (by kernel_rfl)
theorem n9_32s : codeB Try.prog E cx n9_32 st = some (.normal, st) := GE.skip_step (by kernel_rfl)
theorem n9_30s : codeB Try.prog E cx n9_30 st = condS (codeB Try.prog E cx n9_31) (codeB Try.prog E cx n9_32) (lk st.σ 41) st := GE.cond_step (c := .tmp 41) (by kernel_rfl)
theorem n9_28s : codeB Try.prog E cx n9_28 st = thenS (codeB Try.prog E cx n9_29 st) (codeB Try.prog E cx n9_30) := GE.seq_step (by kernel_rfl)
theorem n9_34s : codeB Try.prog E ⟨f, 175, b, ro⟩ n9_34 st = plainS (runOps Try.prog E b q9_34 (ops [true, true, true, true, true, false, true, false, false, true, true, false, false, true, true, true, false] Try.f9) st) := GE.region_step (id := 10) (GE.reg_of (by kernel_rfl)) (by kernel_rfl)
theorem n9_37s : codeB Try.prog E ⟨f, 175, b, ro⟩ n9_37 st = plainS (runOps Try.prog E b q9_37 (ops [true, true, true, true, true, false, true, false, false, true, true, false, false, true, true, true, true, false, false] Try.f9) st) := GE.region_step (id := 11) (GE.reg_of (by kernel_rfl)) (by kernel_rfl)
theorem n9_38s : codeB Try.prog E ⟨f, 175, b, ro⟩ n9_38 st = plainS (runOps Try.prog E b q9_38 (ops [true, true, true, true, true, false, true, false, false, true, true, false, false, true, true, true, true, false, true] Try.f9) st) := GE.region_step (id := 12) (GE.reg_of (by kernel_rfl)) (by kernel_rfl)
theorem n9_36s : codeB Try.prog E cx n9_36 st = thenS (codeB Try.prog E cx n9_37 st) (codeB Try.prog E cx n9_38) := GE.seq_step (by kernel_rfl)
theorem n9_39s : codeB Try.prog E ⟨f, 175, b, ro⟩ n9_39 st = drawS [0, 0, 2, 6, 14, 0, 32, 0, 128, 480, 992, 2046, 0, 4096, 16382, 32767, 65535] (runOpsF Try.prog E b q9_39 (ops [true, true, true, true, true, false, true, false, false, true, true, false, false, true, true, true, true, true] Try.f9) st) := GE.draw_step (id := 13) (GE.reg_of (by kernel_rfl)) (by kernel_rfl) (by kernel_rfl) (by kernel_rfl)
theorem n9_35s : codeB Try.prog E cx n9_35 st = condS (codeB Try.prog E cx n9_36) (codeB Try.prog E cx n9_39) (lk st.σ 46) st := GE.cond_step (c := .tmp 46) (by kernel_rfl)
theorem n9_33s : codeB Try.prog E cx n9_33 st = thenS (codeB Try.prog E cx n9_34 st) (codeB Try.prog E cx n9_35) := GE.seq_step (by kernel_rfl)
theorem n9_27s : codeB Try.prog E cx n9_27 st = thenS (codeB Try.prog E cx n9_28 st) (codeB Try.prog E cx n9_33) := GE.seq_step (by kernel_rfl)
theorem n9_25s : codeB Try.prog E cx n9_25 st = thenS (codeB Try.prog E cx n9_26 st) (codeB Try.prog E cx n9_27) := GE.seq_step (by kernel_rfl)
theorem n9_23s : codeB Try.prog E cx n9_23 st = thenS (codeB Try.prog E cx n9_24 st) (codeB Try.prog E cx n9_25) := GE.seq_step (by kernel_rfl)
theorem n9_22s : codeB Try.prog E cx n9_22 st = blockS 1 (codeB Try.prog E cx n9_23 st) st := GE.block_step (by kernel_rfl)
theorem n9_40s : codeB Try.prog E ⟨f, 175, b, ro⟩ n9_40 st = plainS (runOps Try.prog E b q9_40 (ops [true, true, true, true, true, false, true, false, false, true, true, true] Try.f9) st) := GE.region_step (id := 14) (GE.reg_of (by kernel_rfl)) (by kernel_rfl)
theorem n9_21s : codeB Try.prog E cx n9_21 st = thenS (codeB Try.prog E cx n9_22 st) (codeB Try.prog E cx n9_40) := GE.seq_step (by kernel_rfl)
theorem n9_17s : codeB Try.prog E cx n9_17 st = thenS (codeB Try.prog E cx n9_18 st) (codeB Try.prog E cx n9_21) := GE.seq_step (by kernel_rfl)
theorem n9_15s : codeB Try.prog E cx n9_15 st = thenS (codeB Try.prog E cx n9_16 st) (codeB Try.prog E cx n9_17) := GE.seq_step (by kernel_rfl)
theorem n9_14k : LL.kp (⟨9, 175, b, ro⟩ : Cx).fn (4 * rid n9_15 + 3) = some ⟨[3, 4, 7, 11, 12, 13, 14, 34], [⟨4, 0, 2, true⟩, ⟨11, 2, 3, true⟩, ⟨14, 0, 1, true⟩]⟩ := by kernel_rfl
theorem n9_14s : codeB Try.prog LL ⟨9, 175, b, ro⟩ n9_14 st = headS b ⟨[3, 4, 7, 11, 12, 13, 14, 34], [⟨4, 0, 2, true⟩, ⟨11, 2, 3, true⟩, ⟨14, 0, 1, true⟩]⟩ st (lpB Try.prog LL ⟨9, 175, b, ro⟩ n9_14 n9_15) := GE.lpB_step (by kernel_rfl) (n9_14k b ro)
theorem n9_14g : LL.code ⟨9, 175, b, ro⟩ n9_14 st = headS b ⟨[3, 4, 7, 11, 12, 13, 14, 34], [⟨4, 0, 2, true⟩, ⟨11, 2, 3, true⟩, ⟨14, 0, 1, true⟩]⟩ st (lpB Try.prog LL ⟨9, 175, b, ro⟩ n9_14 n9_15) := GE.lpB_again (by kernel_rfl) (n9_14k b ro)
theorem n9_13s : codeB Try.prog E cx n9_13 st = blockS 0 (codeB Try.prog E cx n9_14 st) st := GE.block_step (by kernel_rfl)
theorem n9_11s : codeB Try.prog E cx n9_11 st = thenS (codeB Try.prog E cx n9_12 st) (codeB Try.prog E cx n9_13) := GE.seq_step (by kernel_rfl)
theorem n9_42s : codeB Try.prog E ⟨f, 175, b, ro⟩ n9_42 st = plainS (runOps Try.prog E b q9_42 (ops [true, true, true, true, true, true, false] Try.f9) st) := GE.region_step (id := 15) (GE.reg_of (by kernel_rfl)) (by kernel_rfl)
theorem n9_45s : codeB Try.prog E ⟨f, 175, b, ro⟩ n9_45 st = plainS (runOps Try.prog E b q9_45 (ops [true, true, true, true, true, true, true, false, false] Try.f9) st) := GE.region_step (id := 16) (GE.reg_of (by kernel_rfl)) (by kernel_rfl)
theorem n9_49s : codeB Try.prog E ⟨f, 175, b, ro⟩ n9_49 st = plainS (runOps Try.prog E b q9_49 (ops [true, true, true, true, true, true, true, false, true, false, false, false] Try.f9) st) := GE.region_step (id := 17) (GE.reg_of (by kernel_rfl)) (by kernel_rfl)
theorem n9_52s : codeB Try.prog E cx n9_52 st = some (.normal, st) := GE.skip_step (by kernel_rfl)
theorem n9_53s : codeB Try.prog LL ⟨9, 175, b, ro⟩ n9_53 st = normS b ⟨[11, 12, 14], [⟨11, 2, 3, true⟩, ⟨14, 0, 1, true⟩]⟩ (.exit 2) st := GE.exit_step (by kernel_rfl) (by kernel_rfl)
theorem n9_51s : codeB Try.prog E cx n9_51 st = condS (codeB Try.prog E cx n9_52) (codeB Try.prog E cx n9_53) (lk st.σ 79) st := GE.cond_step (c := .tmp 79) (by kernel_rfl)
theorem n9_57s : codeB Try.prog E ⟨f, 175, b, ro⟩ n9_57 st = plainS (runOps Try.prog E b q9_57 (ops [true, true, true, true, true, true, true, false, true, false, false, true, true, false, false, false] Try.f9) st) := GE.region_step (id := 18) (GE.reg_of (by kernel_rfl)) (by kernel_rfl)
theorem n9_60s : codeB Try.prog E ⟨f, 175, b, ro⟩ n9_60 st = plainS (runOps Try.prog E b q9_60 (ops [true, true, true, true, true, true, true, false, true, false, false, true, true, false, false, true, false, false] Try.f9) st) := GE.region_step (id := 19) (GE.reg_of (by kernel_rfl)) (by kernel_rfl)
theorem n9_62s : codeB Try.prog LL ⟨9, 175, b, ro⟩ n9_62 st = normS b ⟨[11, 12, 14], [⟨11, 2, 3, true⟩, ⟨14, 0, 1, true⟩]⟩ (.exit 2) st := GE.exit_step (by kernel_rfl) (by kernel_rfl)
theorem n9_63s : codeB Try.prog E cx n9_63 st = some (.normal, st) := GE.skip_step (by kernel_rfl)
theorem n9_61s : codeB Try.prog E cx n9_61 st = condS (codeB Try.prog E cx n9_62) (codeB Try.prog E cx n9_63) (lk st.σ 83) st := GE.cond_step (c := .tmp 83) (by kernel_rfl)
theorem n9_59s : codeB Try.prog E cx n9_59 st = thenS (codeB Try.prog E cx n9_60 st) (codeB Try.prog E cx n9_61) := GE.seq_step (by kernel_rfl)
theorem n9_65s : codeB Try.prog E ⟨f, 175, b, ro⟩ n9_65 st = plainS (runOps Try.prog E b q9_65 (ops [true, true, true, true, true, true, true, false, true, false, false, true, true, false, false, true, true, false] Try.f9) st) := GE.region_step (id := 20) (GE.reg_of (by kernel_rfl)) (by kernel_rfl)
theorem n9_67s : codeB Try.prog E ⟨f, 175, b, ro⟩ n9_67 st = drawS [0, 1, 3, 0, 8, 24, 56, 0, 128, 504, 1023, 2047] (runOpsF Try.prog E b q9_67 (ops [true, true, true, true, true, true, true, false, true, false, false, true, true, false, false, true, true, true, false] Try.f9) st) := GE.draw_step (id := 21) (GE.reg_of (by kernel_rfl)) (by kernel_rfl) (by kernel_rfl) (by kernel_rfl)
theorem n9_69s : codeB Try.prog E ⟨f, 175, b, ro⟩ n9_69 st = drawS [0, 1, 0, 0, 0, 0, 48, 124, 252, 511, 1023, 2047] (runOpsF Try.prog E b q9_69 (ops [true, true, true, true, true, true, true, false, true, false, false, true, true, false, false, true, true, true, true, false] Try.f9) st) := GE.draw_step (id := 22) (GE.reg_of (by kernel_rfl)) (by kernel_rfl) (by kernel_rfl) (by kernel_rfl)
theorem n9_70s : codeB Try.prog E ⟨f, 175, b, ro⟩ n9_70 st = plainS (runOps Try.prog E b q9_70 (ops [true, true, true, true, true, true, true, false, true, false, false, true, true, false, false, true, true, true, true, true] Try.f9) st) := GE.region_step (id := 23) (GE.reg_of (by kernel_rfl)) (by kernel_rfl)
theorem n9_68s : codeB Try.prog E cx n9_68 st = thenS (codeB Try.prog E cx n9_69 st) (codeB Try.prog E cx n9_70) := GE.seq_step (by kernel_rfl)
theorem n9_66s : codeB Try.prog E cx n9_66 st = thenS (codeB Try.prog E cx n9_67 st) (codeB Try.prog E cx n9_68) := GE.seq_step (by kernel_rfl)
theorem n9_64s : codeB Try.prog E cx n9_64 st = thenS (codeB Try.prog E cx n9_65 st) (codeB Try.prog E cx n9_66) := GE.seq_step (by kernel_rfl)
theorem n9_58s : codeB Try.prog E cx n9_58 st = thenS (codeB Try.prog E cx n9_59 st) (codeB Try.prog E cx n9_64) := GE.seq_step (by kernel_rfl)
theorem n9_56s : codeB Try.prog E cx n9_56 st = thenS (codeB Try.prog E cx n9_57 st) (codeB Try.prog E cx n9_58) := GE.seq_step (by kernel_rfl)
theorem n9_55s : codeB Try.prog E cx n9_55 st = blockS 3 (codeB Try.prog E cx n9_56 st) st := GE.block_step (by kernel_rfl)
theorem n9_71s : codeB Try.prog E ⟨f, 175, b, ro⟩ n9_71 st = plainS (runOps Try.prog E b q9_71 (ops [true, true, true, true, true, true, true, false, true, false, false, true, true, true] Try.f9) st) := GE.region_step (id := 24) (GE.reg_of (by kernel_rfl)) (by kernel_rfl)
theorem n9_54s : codeB Try.prog E cx n9_54 st = thenS (codeB Try.prog E cx n9_55 st) (codeB Try.prog E cx n9_71) := GE.seq_step (by kernel_rfl)
theorem n9_50s : codeB Try.prog E cx n9_50 st = thenS (codeB Try.prog E cx n9_51 st) (codeB Try.prog E cx n9_54) := GE.seq_step (by kernel_rfl)
theorem n9_48s : codeB Try.prog E cx n9_48 st = thenS (codeB Try.prog E cx n9_49 st) (codeB Try.prog E cx n9_50) := GE.seq_step (by kernel_rfl)
theorem n9_47k : LL.kp (⟨9, 175, b, ro⟩ : Cx).fn (4 * rid n9_48 + 3) = some ⟨[11, 12, 14, 16, 76, 77, 78], [⟨11, 2, 3, true⟩, ⟨14, 0, 1, true⟩, ⟨76, 0, 2, true⟩]⟩ := by kernel_rfl
theorem n9_47s : codeB Try.prog LL ⟨9, 175, b, ro⟩ n9_47 st = headS b ⟨[11, 12, 14, 16, 76, 77, 78], [⟨11, 2, 3, true⟩, ⟨14, 0, 1, true⟩, ⟨76, 0, 2, true⟩]⟩ st (lpB Try.prog LL ⟨9, 175, b, ro⟩ n9_47 n9_48) := GE.lpB_step (by kernel_rfl) (n9_47k b ro)
theorem n9_47g : LL.code ⟨9, 175, b, ro⟩ n9_47 st = headS b ⟨[11, 12, 14, 16, 76, 77, 78], [⟨11, 2, 3, true⟩, ⟨14, 0, 1, true⟩, ⟨76, 0, 2, true⟩]⟩ st (lpB Try.prog LL ⟨9, 175, b, ro⟩ n9_47 n9_48) := GE.lpB_again (by kernel_rfl) (n9_47k b ro)
theorem n9_46s : codeB Try.prog E cx n9_46 st = blockS 2 (codeB Try.prog E cx n9_47 st) st := GE.block_step (by kernel_rfl)
theorem n9_44s : codeB Try.prog E cx n9_44 st = thenS (codeB Try.prog E cx n9_45 st) (codeB Try.prog E cx n9_46) := GE.seq_step (by kernel_rfl)
theorem n9_74s : codeB Try.prog E ⟨f, 175, b, ro⟩ n9_74 st = plainS (runOps Try.prog E b q9_74 (ops [true, true, true, true, true, true, true, true, false, false] Try.f9) st) := GE.region_step (id := 25) (GE.reg_of (by kernel_rfl)) (by kernel_rfl)
theorem n9_77s : codeB Try.prog E ⟨f, 175, b, ro⟩ n9_77 st = plainS (runOps Try.prog E b q9_77 (ops [true, true, true, true, true, true, true, true, false, true, false, false] Try.f9) st) := GE.region_step (id := 26) (GE.reg_of (by kernel_rfl)) (by kernel_rfl)
theorem n9_78s : codeB Try.prog LL ⟨9, 175, b, ro⟩ n9_78 st = normS b ⟨[10], []⟩ .ret st := GE.ret_step (by kernel_rfl) (by kernel_rfl)
theorem n9_76s : codeB Try.prog E cx n9_76 st = thenS (codeB Try.prog E cx n9_77 st) (codeB Try.prog E cx n9_78) := GE.seq_step (by kernel_rfl)
theorem n9_79s : codeB Try.prog E cx n9_79 st = some (.normal, st) := GE.skip_step (by kernel_rfl)
theorem n9_75s : codeB Try.prog E cx n9_75 st = condS (codeB Try.prog E cx n9_76) (codeB Try.prog E cx n9_79) (lk st.σ 121) st := GE.cond_step (c := .tmp 121) (by kernel_rfl)
theorem n9_73s : codeB Try.prog E cx n9_73 st = thenS (codeB Try.prog E cx n9_74 st) (codeB Try.prog E cx n9_75) := GE.seq_step (by kernel_rfl)
theorem n9_81s : codeB Try.prog E ⟨f, 175, b, ro⟩ n9_81 st = plainS (runOps Try.prog E b q9_81 (ops [true, true, true, true, true, true, true, true, true, false] Try.f9) st) := GE.region_step (id := 27) (GE.reg_of (by kernel_rfl)) (by kernel_rfl)
theorem q9_84g2 : gd q9_84 2 = some 130 := by kernel_rfl
theorem q9_84g9 : gd q9_84 9 = some 137 := by kernel_rfl
theorem n9_84s : codeB Try.prog E ⟨f, 175, b, ro⟩ n9_84 st = plainS (runOps Try.prog E b q9_84 (ops [true, true, true, true, true, true, true, true, true, true, false, false] Try.f9) st) := GE.region_step (id := 28) (GE.reg_of (by kernel_rfl)) (by kernel_rfl)
theorem n9_87s : codeB Try.prog E ⟨f, 175, b, ro⟩ n9_87 st = plainS (runOps Try.prog E b q9_87 (ops [true, true, true, true, true, true, true, true, true, true, false, true, false, false] Try.f9) st) := GE.region_step (id := 29) (GE.reg_of (by kernel_rfl)) (by kernel_rfl)
theorem n9_88s : codeB Try.prog LL ⟨9, 175, b, ro⟩ n9_88 st = normS b ⟨[10], []⟩ .ret st := GE.ret_step (by kernel_rfl) (by kernel_rfl)
theorem n9_86s : codeB Try.prog E cx n9_86 st = thenS (codeB Try.prog E cx n9_87 st) (codeB Try.prog E cx n9_88) := GE.seq_step (by kernel_rfl)
theorem n9_89s : codeB Try.prog E cx n9_89 st = some (.normal, st) := GE.skip_step (by kernel_rfl)
theorem n9_85s : codeB Try.prog E cx n9_85 st = condS (codeB Try.prog E cx n9_86) (codeB Try.prog E cx n9_89) (lk st.σ 142) st := GE.cond_step (c := .tmp 142) (by kernel_rfl)
theorem n9_83s : codeB Try.prog E cx n9_83 st = thenS (codeB Try.prog E cx n9_84 st) (codeB Try.prog E cx n9_85) := GE.seq_step (by kernel_rfl)
theorem n9_92s : codeB Try.prog E ⟨f, 175, b, ro⟩ n9_92 st = plainS (runOps Try.prog E b q9_92 (ops [true, true, true, true, true, true, true, true, true, true, true, false, false] Try.f9) st) := GE.region_step (id := 30) (GE.reg_of (by kernel_rfl)) (by kernel_rfl)
theorem n9_96s : codeB Try.prog E ⟨f, 175, b, ro⟩ n9_96 st = plainS (runOps Try.prog E b q9_96 (ops [true, true, true, true, true, true, true, true, true, true, true, false, true, false, false, false] Try.f9) st) := GE.region_step (id := 31) (GE.reg_of (by kernel_rfl)) (by kernel_rfl)
theorem n9_99s : codeB Try.prog E cx n9_99 st = some (.normal, st) := GE.skip_step (by kernel_rfl)
theorem n9_100s : codeB Try.prog LL ⟨9, 175, b, ro⟩ n9_100 st = normS b ⟨[], []⟩ (.exit 4) st := GE.exit_step (by kernel_rfl) (by kernel_rfl)
theorem n9_98s : codeB Try.prog E cx n9_98 st = condS (codeB Try.prog E cx n9_99) (codeB Try.prog E cx n9_100) (lk st.σ 145) st := GE.cond_step (c := .tmp 145) (by kernel_rfl)
theorem n9_104s : codeB Try.prog E ⟨f, 175, b, ro⟩ n9_104 st = plainS (runOps Try.prog E b q9_104 (ops [true, true, true, true, true, true, true, true, true, true, true, false, true, false, false, true, true, false, false, false] Try.f9) st) := GE.region_step (id := 32) (GE.reg_of (by kernel_rfl)) (by kernel_rfl)
theorem n9_106s : codeB Try.prog E ⟨f, 175, b, ro⟩ n9_106 st = plainS (runOps Try.prog E b q9_106 (ops [true, true, true, true, true, true, true, true, true, true, true, false, true, false, false, true, true, false, false, true, false] Try.f9) st) := GE.region_step (id := 33) (GE.reg_of (by kernel_rfl)) (by kernel_rfl)
theorem q9_108g2 : gd q9_108 2 = some 157 := by kernel_rfl
theorem q9_108g5 : gd q9_108 5 = some 160 := by kernel_rfl
theorem q9_108g11 : gd q9_108 11 = some 166 := by kernel_rfl
theorem n9_108s : codeB Try.prog E ⟨f, 175, b, ro⟩ n9_108 st = plainS (runOps Try.prog E b q9_108 (ops [true, true, true, true, true, true, true, true, true, true, true, false, true, false, false, true, true, false, false, true, true, false] Try.f9) st) := GE.region_step (id := 34) (GE.reg_of (by kernel_rfl)) (by kernel_rfl)
theorem n9_111s : codeB Try.prog E ⟨f, 175, b, ro⟩ n9_111 st = plainS (runOps Try.prog E b q9_111 (ops [true, true, true, true, true, true, true, true, true, true, true, false, true, false, false, true, true, false, false, true, true, true, false, false] Try.f9) st) := GE.region_step (id := 35) (GE.reg_of (by kernel_rfl)) (by kernel_rfl)
theorem n9_112s : codeB Try.prog LL ⟨9, 175, b, ro⟩ n9_112 st = normS b ⟨[10], []⟩ .ret st := GE.ret_step (by kernel_rfl) (by kernel_rfl)
theorem n9_110s : codeB Try.prog E cx n9_110 st = thenS (codeB Try.prog E cx n9_111 st) (codeB Try.prog E cx n9_112) := GE.seq_step (by kernel_rfl)
theorem n9_113s : codeB Try.prog E cx n9_113 st = some (.normal, st) := GE.skip_step (by kernel_rfl)
theorem n9_109s : codeB Try.prog E cx n9_109 st = condS (codeB Try.prog E cx n9_110) (codeB Try.prog E cx n9_113) (lk st.σ 172) st := GE.cond_step (c := .tmp 172) (by kernel_rfl)
theorem n9_107s : codeB Try.prog E cx n9_107 st = thenS (codeB Try.prog E cx n9_108 st) (codeB Try.prog E cx n9_109) := GE.seq_step (by kernel_rfl)
theorem n9_105s : codeB Try.prog E cx n9_105 st = thenS (codeB Try.prog E cx n9_106 st) (codeB Try.prog E cx n9_107) := GE.seq_step (by kernel_rfl)
theorem n9_103s : codeB Try.prog E cx n9_103 st = thenS (codeB Try.prog E cx n9_104 st) (codeB Try.prog E cx n9_105) := GE.seq_step (by kernel_rfl)
theorem n9_102s : codeB Try.prog E cx n9_102 st = blockS 5 (codeB Try.prog E cx n9_103 st) st := GE.block_step (by kernel_rfl)
theorem n9_114s : codeB Try.prog E ⟨f, 175, b, ro⟩ n9_114 st = plainS (runOps Try.prog E b q9_114 (ops [true, true, true, true, true, true, true, true, true, true, true, false, true, false, false, true, true, true] Try.f9) st) := GE.region_step (id := 36) (GE.reg_of (by kernel_rfl)) (by kernel_rfl)
theorem n9_101s : codeB Try.prog E cx n9_101 st = thenS (codeB Try.prog E cx n9_102 st) (codeB Try.prog E cx n9_114) := GE.seq_step (by kernel_rfl)
theorem n9_97s : codeB Try.prog E cx n9_97 st = thenS (codeB Try.prog E cx n9_98 st) (codeB Try.prog E cx n9_101) := GE.seq_step (by kernel_rfl)
theorem n9_95s : codeB Try.prog E cx n9_95 st = thenS (codeB Try.prog E cx n9_96 st) (codeB Try.prog E cx n9_97) := GE.seq_step (by kernel_rfl)
theorem n9_94k : LL.kp (⟨9, 175, b, ro⟩ : Cx).fn (4 * rid n9_95 + 3) = some ⟨[11, 14, 143, 144], [⟨11, 2, 3, true⟩, ⟨14, 0, 1, true⟩]⟩ := by kernel_rfl
theorem n9_94s : codeB Try.prog LL ⟨9, 175, b, ro⟩ n9_94 st = headS b ⟨[11, 14, 143, 144], [⟨11, 2, 3, true⟩, ⟨14, 0, 1, true⟩]⟩ st (lpB Try.prog LL ⟨9, 175, b, ro⟩ n9_94 n9_95) := GE.lpB_step (by kernel_rfl) (n9_94k b ro)
theorem n9_94g : LL.code ⟨9, 175, b, ro⟩ n9_94 st = headS b ⟨[11, 14, 143, 144], [⟨11, 2, 3, true⟩, ⟨14, 0, 1, true⟩]⟩ st (lpB Try.prog LL ⟨9, 175, b, ro⟩ n9_94 n9_95) := GE.lpB_again (by kernel_rfl) (n9_94k b ro)
theorem n9_93s : codeB Try.prog E cx n9_93 st = blockS 4 (codeB Try.prog E cx n9_94 st) st := GE.block_step (by kernel_rfl)
theorem n9_91s : codeB Try.prog E cx n9_91 st = thenS (codeB Try.prog E cx n9_92 st) (codeB Try.prog E cx n9_93) := GE.seq_step (by kernel_rfl)
theorem n9_116s : codeB Try.prog E ⟨f, 175, b, ro⟩ n9_116 st = plainS (runOps Try.prog E b q9_116 (ops [true, true, true, true, true, true, true, true, true, true, true, true, false] Try.f9) st) := GE.region_step (id := 37) (GE.reg_of (by kernel_rfl)) (by kernel_rfl)
theorem n9_117s : codeB Try.prog LL ⟨9, 175, b, ro⟩ n9_117 st = normS b ⟨[10], []⟩ .ret st := GE.ret_step (by kernel_rfl) (by kernel_rfl)
theorem n9_115s : codeB Try.prog E cx n9_115 st = thenS (codeB Try.prog E cx n9_116 st) (codeB Try.prog E cx n9_117) := GE.seq_step (by kernel_rfl)
theorem n9_90s : codeB Try.prog E cx n9_90 st = thenS (codeB Try.prog E cx n9_91 st) (codeB Try.prog E cx n9_115) := GE.seq_step (by kernel_rfl)
theorem n9_82s : codeB Try.prog E cx n9_82 st = thenS (codeB Try.prog E cx n9_83 st) (codeB Try.prog E cx n9_90) := GE.seq_step (by kernel_rfl)
theorem n9_80s : codeB Try.prog E cx n9_80 st = thenS (codeB Try.prog E cx n9_81 st) (codeB Try.prog E cx n9_82) := GE.seq_step (by kernel_rfl)
theorem n9_72s : codeB Try.prog E cx n9_72 st = thenS (codeB Try.prog E cx n9_73 st) (codeB Try.prog E cx n9_80) := GE.seq_step (by kernel_rfl)
theorem n9_43s : codeB Try.prog E cx n9_43 st = thenS (codeB Try.prog E cx n9_44 st) (codeB Try.prog E cx n9_72) := GE.seq_step (by kernel_rfl)
theorem n9_41s : codeB Try.prog E cx n9_41 st = thenS (codeB Try.prog E cx n9_42 st) (codeB Try.prog E cx n9_43) := GE.seq_step (by kernel_rfl)
theorem n9_10s : codeB Try.prog E cx n9_10 st = thenS (codeB Try.prog E cx n9_11 st) (codeB Try.prog E cx n9_41) := GE.seq_step (by kernel_rfl)
theorem n9_8s : codeB Try.prog E cx n9_8 st = thenS (codeB Try.prog E cx n9_9 st) (codeB Try.prog E cx n9_10) := GE.seq_step (by kernel_rfl)
theorem n9_6s : codeB Try.prog E cx n9_6 st = thenS (codeB Try.prog E cx n9_7 st) (codeB Try.prog E cx n9_8) := GE.seq_step (by kernel_rfl)
theorem n9_4s : codeB Try.prog E cx n9_4 st = thenS (codeB Try.prog E cx n9_5 st) (codeB Try.prog E cx n9_6) := GE.seq_step (by kernel_rfl)
theorem n9_2s : codeB Try.prog E cx n9_2 st = thenS (codeB Try.prog E cx n9_3 st) (codeB Try.prog E cx n9_4) := GE.seq_step (by kernel_rfl)
theorem n9_0s : codeB Try.prog E cx n9_0 st = thenS (codeB Try.prog E cx n9_1 st) (codeB Try.prog E cx n9_2) := GE.seq_step (by kernel_rfl)
noncomputable def n17_0 : Code := bodyOf Try.f17
noncomputable def n17_1 : Code := cl n17_0
noncomputable def q17_1 : List Oper := opsOf n17_1
noncomputable def n17_2 : Code := cr n17_0
noncomputable def n17_3 : Code := cl n17_2
noncomputable def n17_4 : Code := cl n17_3
noncomputable def q17_4 : List Oper := opsOf n17_4
noncomputable def n17_5 : Code := cr n17_3
noncomputable def n17_6 : Code := cl n17_5
noncomputable def q17_6 : List Oper := opsOf n17_6
noncomputable def n17_7 : Code := cr n17_5
noncomputable def n17_8 : Code := cl n17_7
noncomputable def n17_9 : Code := cl n17_8
noncomputable def q17_9 : List Oper := opsOf n17_9
noncomputable def n17_10 : Code := cr n17_8
noncomputable def n17_11 : Code := cr n17_7
noncomputable def n17_12 : Code := cr n17_2
noncomputable def n17_13 : Code := cl n17_12
noncomputable def q17_13 : List Oper := opsOf n17_13
noncomputable def n17_14 : Code := cr n17_12
theorem body17 : Try.f17.body = some n17_0 := by kernel_rfl
theorem run17 (E : Ev) (args : List Value) (h : List Blk) (hl : args.length ≤ 14) : runB Try.prog E 17 args h = endS Try.prog [.tmp 2, .tmp 3] h.length (codeB Try.prog E ⟨17, 14, h.length, none⟩ n17_0 ⟨enumT 0 args, h, []⟩) := GE.run_step Try.func17 body17 (by kernel_rfl) (by decide) (by kernel_rfl) hl
theorem n17_1s : codeB Try.prog E ⟨f, 14, b, ro⟩ n17_1 st = plainS (runOps Try.prog E b q17_1 (ops [false] Try.f17) st) := GE.region_step (id := 0) (GE.reg_of (by kernel_rfl)) (by kernel_rfl)
theorem n17_4s : codeB Try.prog E ⟨f, 14, b, ro⟩ n17_4 st = plainS (runOps Try.prog E b q17_4 (ops [true, false, false] Try.f17) st) := GE.region_step (id := 1) (GE.reg_of (by kernel_rfl)) (by kernel_rfl)
theorem n17_6s : codeB Try.prog E ⟨f, 14, b, ro⟩ n17_6 st = plainS (runOps Try.prog E b q17_6 (ops [true, false, true, false] Try.f17) st) := GE.region_step (id := 2) (GE.reg_of (by kernel_rfl)) (by kernel_rfl)
theorem n17_9s : codeB Try.prog E ⟨f, 14, b, ro⟩ n17_9 st = plainS (runOps Try.prog E b q17_9 (ops [true, false, true, true, false, false] Try.f17) st) := GE.region_step (id := 3) (GE.reg_of (by kernel_rfl)) (by kernel_rfl)
theorem n17_10s : codeB Try.prog LL ⟨17, 14, b, ro⟩ n17_10 st = normS b ⟨[2, 3], [⟨2, 0, 1, true⟩]⟩ .ret st := GE.ret_step (by kernel_rfl) (by kernel_rfl)
theorem n17_8s : codeB Try.prog E cx n17_8 st = thenS (codeB Try.prog E cx n17_9 st) (codeB Try.prog E cx n17_10) := GE.seq_step (by kernel_rfl)
theorem n17_11s : codeB Try.prog E cx n17_11 st = some (.normal, st) := GE.skip_step (by kernel_rfl)
theorem n17_7s : codeB Try.prog E cx n17_7 st = condS (codeB Try.prog E cx n17_8) (codeB Try.prog E cx n17_11) (lk st.σ 8) st := GE.cond_step (c := .tmp 8) (by kernel_rfl)
theorem n17_5s : codeB Try.prog E cx n17_5 st = thenS (codeB Try.prog E cx n17_6 st) (codeB Try.prog E cx n17_7) := GE.seq_step (by kernel_rfl)
theorem n17_3s : codeB Try.prog E cx n17_3 st = thenS (codeB Try.prog E cx n17_4 st) (codeB Try.prog E cx n17_5) := GE.seq_step (by kernel_rfl)
theorem n17_13s : codeB Try.prog E ⟨f, 14, b, ro⟩ n17_13 st = plainS (runOps Try.prog E b q17_13 (ops [true, true, false] Try.f17) st) := GE.region_step (id := 4) (GE.reg_of (by kernel_rfl)) (by kernel_rfl)
theorem n17_14s : codeB Try.prog LL ⟨17, 14, b, ro⟩ n17_14 st = normS b ⟨[2, 3], [⟨2, 0, 1, true⟩]⟩ .ret st := GE.ret_step (by kernel_rfl) (by kernel_rfl)
theorem n17_12s : codeB Try.prog E cx n17_12 st = thenS (codeB Try.prog E cx n17_13 st) (codeB Try.prog E cx n17_14) := GE.seq_step (by kernel_rfl)
theorem n17_2s : codeB Try.prog E cx n17_2 st = thenS (codeB Try.prog E cx n17_3 st) (codeB Try.prog E cx n17_12) := GE.seq_step (by kernel_rfl)
theorem n17_0s : codeB Try.prog E cx n17_0 st = thenS (codeB Try.prog E cx n17_1 st) (codeB Try.prog E cx n17_2) := GE.seq_step (by kernel_rfl)
noncomputable def n20_0 : Code := bodyOf Try.f20
noncomputable def n20_1 : Code := cl n20_0
noncomputable def q20_1 : List Oper := opsOf n20_1
noncomputable def n20_2 : Code := cr n20_0
noncomputable def n20_3 : Code := cl n20_2
noncomputable def q20_3 : List Oper := opsOf n20_3
noncomputable def n20_4 : Code := cr n20_2
noncomputable def n20_5 : Code := cl n20_4
noncomputable def q20_5 : List Oper := opsOf n20_5
noncomputable def n20_6 : Code := cr n20_4
theorem body20 : Try.f20.body = some n20_0 := by kernel_rfl
theorem run20 (E : Ev) (args : List Value) (h : List Blk) (hl : args.length ≤ 14) : runB Try.prog E 20 args h = endS Try.prog [.tmp 4] h.length (codeB Try.prog E ⟨20, 14, h.length, none⟩ n20_0 ⟨enumT 0 args, h, []⟩) := GE.run_step Try.func20 body20 (by kernel_rfl) (by decide) (by kernel_rfl) hl
theorem n20_1s : codeB Try.prog E ⟨f, 14, b, ro⟩ n20_1 st = plainS (runOps Try.prog E b q20_1 (ops [false] Try.f20) st) := GE.region_step (id := 0) (GE.reg_of (by kernel_rfl)) (by kernel_rfl)
theorem n20_3s : codeB Try.prog E ⟨f, 14, b, ro⟩ n20_3 st = plainS (runOps Try.prog E b q20_3 (ops [true, false] Try.f20) st) := GE.region_step (id := 1) (GE.reg_of (by kernel_rfl)) (by kernel_rfl)
theorem n20_5s : codeB Try.prog E ⟨f, 14, b, ro⟩ n20_5 st = plainS (runOps Try.prog E b q20_5 (ops [true, true, false] Try.f20) st) := GE.region_step (id := 2) (GE.reg_of (by kernel_rfl)) (by kernel_rfl)
theorem n20_6s : codeB Try.prog LL ⟨20, 14, b, ro⟩ n20_6 st = normS b ⟨[4], []⟩ .ret st := GE.ret_step (by kernel_rfl) (by kernel_rfl)
theorem n20_4s : codeB Try.prog E cx n20_4 st = thenS (codeB Try.prog E cx n20_5 st) (codeB Try.prog E cx n20_6) := GE.seq_step (by kernel_rfl)
theorem n20_2s : codeB Try.prog E cx n20_2 st = thenS (codeB Try.prog E cx n20_3 st) (codeB Try.prog E cx n20_4) := GE.seq_step (by kernel_rfl)
theorem n20_0s : codeB Try.prog E cx n20_0 st = thenS (codeB Try.prog E cx n20_1 st) (codeB Try.prog E cx n20_2) := GE.seq_step (by kernel_rfl)
noncomputable def n22_0 : Code := bodyOf Try.f22
noncomputable def n22_1 : Code := cl n22_0
noncomputable def q22_1 : List Oper := opsOf n22_1
noncomputable def n22_2 : Code := cr n22_0
noncomputable def n22_3 : Code := cl n22_2
noncomputable def n22_4 : Code := cl n22_3
noncomputable def n22_5 : Code := cl n22_4
noncomputable def q22_5 : List Oper := opsOf n22_5
noncomputable def n22_6 : Code := cr n22_4
noncomputable def n22_7 : Code := cl n22_6
noncomputable def n22_8 : Code := cl n22_7
noncomputable def q22_8 : List Oper := opsOf n22_8
noncomputable def n22_9 : Code := cr n22_7
noncomputable def n22_10 : Code := cr n22_6
noncomputable def n22_11 : Code := cl n22_10
noncomputable def q22_11 : List Oper := opsOf n22_11
noncomputable def n22_12 : Code := cr n22_10
noncomputable def n22_13 : Code := cl n22_12
noncomputable def n22_14 : Code := cl n22_13
noncomputable def q22_14 : List Oper := opsOf n22_14
noncomputable def n22_15 : Code := cr n22_13
noncomputable def n22_16 : Code := cr n22_12
noncomputable def n22_17 : Code := cl n22_16
noncomputable def q22_17 : List Oper := opsOf n22_17
noncomputable def n22_18 : Code := cr n22_16
noncomputable def n22_19 : Code := cl n22_18
noncomputable def n22_20 : Code := cl n22_19
noncomputable def q22_20 : List Oper := opsOf n22_20
noncomputable def n22_21 : Code := cr n22_19
noncomputable def n22_22 : Code := cr n22_18
noncomputable def n22_23 : Code := cr n22_2
noncomputable def n22_24 : Code := cl n22_23
noncomputable def q22_24 : List Oper := opsOf n22_24
noncomputable def n22_25 : Code := cr n22_23
noncomputable def n22_26 : Code := cl n22_25
noncomputable def n22_27 : Code := cl n22_26
noncomputable def q22_27 : List Oper := opsOf n22_27
noncomputable def n22_28 : Code := cr n22_26
noncomputable def n22_29 : Code := cl n22_28
noncomputable def n22_30 : Code := cl n22_29
noncomputable def n22_31 : Code := cl n22_30
noncomputable def q22_31 : List Oper := opsOf n22_31
noncomputable def n22_32 : Code := cr n22_30
noncomputable def n22_33 : Code := cl n22_32
noncomputable def n22_34 : Code := cl n22_33
noncomputable def n22_35 : Code := cr n22_33
noncomputable def n22_36 : Code := cr n22_32
noncomputable def n22_37 : Code := cl n22_36
noncomputable def n22_38 : Code := cl n22_37
noncomputable def n22_39 : Code := cl n22_38
noncomputable def q22_39 : List Oper := opsOf n22_39
noncomputable def n22_40 : Code := cr n22_38
noncomputable def n22_41 : Code := cl n22_40
noncomputable def n22_42 : Code := cl n22_41
noncomputable def n22_43 : Code := cl n22_42
noncomputable def q22_43 : List Oper := opsOf n22_43
noncomputable def n22_44 : Code := cr n22_42
noncomputable def n22_45 : Code := cl n22_44
noncomputable def n22_46 : Code := cl n22_45
noncomputable def q22_46 : List Oper := opsOf n22_46
noncomputable def n22_47 : Code := cr n22_45
noncomputable def n22_48 : Code := cr n22_44
noncomputable def n22_49 : Code := cl n22_48
noncomputable def q22_49 : List Oper := opsOf n22_49
noncomputable def n22_50 : Code := cr n22_48
noncomputable def n22_51 : Code := cl n22_50
noncomputable def n22_52 : Code := cl n22_51
noncomputable def q22_52 : List Oper := opsOf n22_52
noncomputable def n22_53 : Code := cr n22_51
noncomputable def n22_54 : Code := cr n22_50
noncomputable def n22_55 : Code := cr n22_40
noncomputable def q22_55 : List Oper := opsOf n22_55
noncomputable def n22_56 : Code := cr n22_36
noncomputable def q22_56 : List Oper := opsOf n22_56
noncomputable def n22_57 : Code := cr n22_25
noncomputable def n22_58 : Code := cl n22_57
noncomputable def q22_58 : List Oper := opsOf n22_58
noncomputable def n22_59 : Code := cr n22_57
theorem body22 : Try.f22.body = some n22_0 := by kernel_rfl
theorem run22 (E : Ev) (args : List Value) (h : List Blk) (hl : args.length ≤ 46) : runB Try.prog E 22 args h = endS Try.prog [.tmp 2] h.length (codeB Try.prog E ⟨22, 46, h.length, none⟩ n22_0 ⟨enumT 0 args, h, []⟩) := GE.run_step Try.func22 body22 (by kernel_rfl) (by decide) (by kernel_rfl) hl
theorem n22_1s : codeB Try.prog E ⟨f, 46, b, ro⟩ n22_1 st = plainS (runOps Try.prog E b q22_1 (ops [false] Try.f22) st) := GE.region_step (id := 0) (GE.reg_of (by kernel_rfl)) (by kernel_rfl)
theorem q22_5g4 : gd q22_5 4 = some 11 := by kernel_rfl
theorem n22_5s : codeB Try.prog E ⟨f, 46, b, ro⟩ n22_5 st = plainS (runOps Try.prog E b q22_5 (ops [true, false, false, false] Try.f22) st) := GE.region_step (id := 1) (GE.reg_of (by kernel_rfl)) (by kernel_rfl)
theorem n22_8s : codeB Try.prog E ⟨f, 46, b, ro⟩ n22_8 st = plainS (runOps Try.prog E b q22_8 (ops [true, false, false, true, false, false] Try.f22) st) := GE.region_step (id := 2) (GE.reg_of (by kernel_rfl)) (by kernel_rfl)
theorem n22_9s : codeB Try.prog LL ⟨22, 46, b, ro⟩ n22_9 st = normS b ⟨[2], []⟩ .ret st := GE.ret_step (by kernel_rfl) (by kernel_rfl)
theorem n22_7s : codeB Try.prog E cx n22_7 st = thenS (codeB Try.prog E cx n22_8 st) (codeB Try.prog E cx n22_9) := GE.seq_step (by kernel_rfl)
theorem n22_11s : codeB Try.prog E ⟨f, 46, b, ro⟩ n22_11 st = plainS (runOps Try.prog E b q22_11 (ops [true, false, false, true, true, false] Try.f22) st) := GE.region_step (id := 3) (GE.reg_of (by kernel_rfl)) (by kernel_rfl)
theorem n22_14s : codeB Try.prog E ⟨f, 46, b, ro⟩ n22_14 st = plainS (runOps Try.prog E b q22_14 (ops [true, false, false, true, true, true, false, false] Try.f22) st) := GE.region_step (id := 4) (GE.reg_of (by kernel_rfl)) (by kernel_rfl)
theorem n22_15s : codeB Try.prog LL ⟨22, 46, b, ro⟩ n22_15 st = normS b ⟨[2], []⟩ .ret st := GE.ret_step (by kernel_rfl) (by kernel_rfl)
theorem n22_13s : codeB Try.prog E cx n22_13 st = thenS (codeB Try.prog E cx n22_14 st) (codeB Try.prog E cx n22_15) := GE.seq_step (by kernel_rfl)
theorem n22_17s : codeB Try.prog E ⟨f, 46, b, ro⟩ n22_17 st = plainS (runOps Try.prog E b q22_17 (ops [true, false, false, true, true, true, true, false] Try.f22) st) := GE.region_step (id := 5) (GE.reg_of (by kernel_rfl)) (by kernel_rfl)
theorem n22_20s : codeB Try.prog E ⟨f, 46, b, ro⟩ n22_20 st = plainS (runOps Try.prog E b q22_20 (ops [true, false, false, true, true, true, true, true, false, false] Try.f22) st) := GE.region_step (id := 6) (GE.reg_of (by kernel_rfl)) (by kernel_rfl)
theorem n22_21s : codeB Try.prog LL ⟨22, 46, b, ro⟩ n22_21 st = normS b ⟨[2], []⟩ .ret st := GE.ret_step (by kernel_rfl) (by kernel_rfl)
theorem n22_19s : codeB Try.prog E cx n22_19 st = thenS (codeB Try.prog E cx n22_20 st) (codeB Try.prog E cx n22_21) := GE.seq_step (by kernel_rfl)
theorem n22_22s : codeB Try.prog E cx n22_22 st = some (.normal, st) := GE.skip_step (by kernel_rfl)
theorem n22_18s : codeB Try.prog E cx n22_18 st = condS (codeB Try.prog E cx n22_19) (codeB Try.prog E cx n22_22) (lk st.σ 22) st := GE.cond_step (c := .tmp 22) (by kernel_rfl)
theorem n22_16s : codeB Try.prog E cx n22_16 st = thenS (codeB Try.prog E cx n22_17 st) (codeB Try.prog E cx n22_18) := GE.seq_step (by kernel_rfl)
theorem n22_12s : codeB Try.prog E cx n22_12 st = condS (codeB Try.prog E cx n22_13) (codeB Try.prog E cx n22_16) (lk st.σ 17) st := GE.cond_step (c := .tmp 17) (by kernel_rfl)
theorem n22_10s : codeB Try.prog E cx n22_10 st = thenS (codeB Try.prog E cx n22_11 st) (codeB Try.prog E cx n22_12) := GE.seq_step (by kernel_rfl)
theorem n22_6s : codeB Try.prog E cx n22_6 st = condS (codeB Try.prog E cx n22_7) (codeB Try.prog E cx n22_10) (lk st.σ 6) st := GE.cond_step (c := .tmp 6) (by kernel_rfl)
theorem n22_4s : codeB Try.prog E cx n22_4 st = thenS (codeB Try.prog E cx n22_5 st) (codeB Try.prog E cx n22_6) := GE.seq_step (by kernel_rfl)
theorem n22_3s : codeB Try.prog E cx n22_3 st = blockS 0 (codeB Try.prog E cx n22_4 st) st := GE.block_step (by kernel_rfl)
theorem n22_24s : codeB Try.prog E ⟨f, 46, b, ro⟩ n22_24 st = plainS (runOps Try.prog E b q22_24 (ops [true, true, false] Try.f22) st) := GE.region_step (id := 7) (GE.reg_of (by kernel_rfl)) (by kernel_rfl)
theorem n22_27s : codeB Try.prog E ⟨f, 46, b, ro⟩ n22_27 st = plainS (runOps Try.prog E b q22_27 (ops [true, true, true, false, false] Try.f22) st) := GE.region_step (id := 8) (GE.reg_of (by kernel_rfl)) (by kernel_rfl)
theorem n22_31s : codeB Try.prog E ⟨f, 46, b, ro⟩ n22_31 st = plainS (runOps Try.prog E b q22_31 (ops [true, true, true, false, true, false, false, false] Try.f22) st) := GE.region_step (id := 9) (GE.reg_of (by kernel_rfl)) (by kernel_rfl)
theorem n22_34s : codeB Try.prog E cx n22_34 st = some (.normal, st) := GE.skip_step (by kernel_rfl)
theorem n22_35s : codeB Try.prog LL ⟨22, 46, b, ro⟩ n22_35 st = normS b ⟨[], []⟩ (.exit 1) st := GE.exit_step (by kernel_rfl) (by kernel_rfl)
theorem n22_33s : codeB Try.prog E cx n22_33 st = condS (codeB Try.prog E cx n22_34) (codeB Try.prog E cx n22_35) (lk st.σ 31) st := GE.cond_step (c := .tmp 31) (by kernel_rfl)
theorem n22_39s : codeB Try.prog E ⟨f, 46, b, ro⟩ n22_39 st = plainS (runOps Try.prog E b q22_39 (ops [true, true, true, false, true, false, false, true, true, false, false, false] Try.f22) st) := GE.region_step (id := 10) (GE.reg_of (by kernel_rfl)) (by kernel_rfl)
theorem n22_43s : codeB Try.prog E ⟨f, 46, b, ro⟩ n22_43 st = plainS (runOps Try.prog E b q22_43 (ops [true, true, true, false, true, false, false, true, true, false, false, true, false, false, false] Try.f22) st) := GE.region_step (id := 11) (GE.reg_of (by kernel_rfl)) (by kernel_rfl)
theorem n22_46s : codeB Try.prog E ⟨f, 46, b, ro⟩ n22_46 st = plainS (runOps Try.prog E b q22_46 (ops [true, true, true, false, true, false, false, true, true, false, false, true, false, false, true, false, false] Try.f22) st) := GE.region_step (id := 12) (GE.reg_of (by kernel_rfl)) (by kernel_rfl)
theorem n22_47s : codeB Try.prog LL ⟨22, 46, b, ro⟩ n22_47 st = normS b ⟨[2], []⟩ .ret st := GE.ret_step (by kernel_rfl) (by kernel_rfl)
theorem n22_45s : codeB Try.prog E cx n22_45 st = thenS (codeB Try.prog E cx n22_46 st) (codeB Try.prog E cx n22_47) := GE.seq_step (by kernel_rfl)
theorem n22_49s : codeB Try.prog E ⟨f, 46, b, ro⟩ n22_49 st = plainS (runOps Try.prog E b q22_49 (ops [true, true, true, false, true, false, false, true, true, false, false, true, false, false, true, true, false] Try.f22) st) := GE.region_step (id := 13) (GE.reg_of (by kernel_rfl)) (by kernel_rfl)
theorem n22_52s : codeB Try.prog E ⟨f, 46, b, ro⟩ n22_52 st = plainS (runOps Try.prog E b q22_52 (ops [true, true, true, false, true, false, false, true, true, false, false, true, false, false, true, true, true, false, false] Try.f22) st) := GE.region_step (id := 14) (GE.reg_of (by kernel_rfl)) (by kernel_rfl)
theorem n22_53s : codeB Try.prog LL ⟨22, 46, b, ro⟩ n22_53 st = normS b ⟨[2], []⟩ .ret st := GE.ret_step (by kernel_rfl) (by kernel_rfl)
theorem n22_51s : codeB Try.prog E cx n22_51 st = thenS (codeB Try.prog E cx n22_52 st) (codeB Try.prog E cx n22_53) := GE.seq_step (by kernel_rfl)
theorem n22_54s : codeB Try.prog E cx n22_54 st = some (.normal, st) := GE.skip_step (by kernel_rfl)
theorem n22_50s : codeB Try.prog E cx n22_50 st = condS (codeB Try.prog E cx n22_51) (codeB Try.prog E cx n22_54) (lk st.σ 38) st := GE.cond_step (c := .tmp 38) (by kernel_rfl)
theorem n22_48s : codeB Try.prog E cx n22_48 st = thenS (codeB Try.prog E cx n22_49 st) (codeB Try.prog E cx n22_50) := GE.seq_step (by kernel_rfl)
theorem n22_44s : codeB Try.prog E cx n22_44 st = condS (codeB Try.prog E cx n22_45) (codeB Try.prog E cx n22_48) (lk st.σ 34) st := GE.cond_step (c := .tmp 34) (by kernel_rfl)
theorem n22_42s : codeB Try.prog E cx n22_42 st = thenS (codeB Try.prog E cx n22_43 st) (codeB Try.prog E cx n22_44) := GE.seq_step (by kernel_rfl)
theorem n22_41s : codeB Try.prog E cx n22_41 st = blockS 3 (codeB Try.prog E cx n22_42 st) st := GE.block_step (by kernel_rfl)
theorem n22_55s : codeB Try.prog E ⟨f, 46, b, ro⟩ n22_55 st = plainS (runOps Try.prog E b q22_55 (ops [true, true, true, false, true, false, false, true, true, false, false, true, true] Try.f22) st) := GE.region_step (id := 15) (GE.reg_of (by kernel_rfl)) (by kernel_rfl)
theorem n22_40s : codeB Try.prog E cx n22_40 st = thenS (codeB Try.prog E cx n22_41 st) (codeB Try.prog E cx n22_55) := GE.seq_step (by kernel_rfl)
theorem n22_38s : codeB Try.prog E cx n22_38 st = thenS (codeB Try.prog E cx n22_39 st) (codeB Try.prog E cx n22_40) := GE.seq_step (by kernel_rfl)
theorem n22_37s : codeB Try.prog E cx n22_37 st = blockS 2 (codeB Try.prog E cx n22_38 st) st := GE.block_step (by kernel_rfl)
theorem n22_56s : codeB Try.prog E ⟨f, 46, b, ro⟩ n22_56 st = plainS (runOps Try.prog E b q22_56 (ops [true, true, true, false, true, false, false, true, true, true] Try.f22) st) := GE.region_step (id := 16) (GE.reg_of (by kernel_rfl)) (by kernel_rfl)
theorem n22_36s : codeB Try.prog E cx n22_36 st = thenS (codeB Try.prog E cx n22_37 st) (codeB Try.prog E cx n22_56) := GE.seq_step (by kernel_rfl)
theorem n22_32s : codeB Try.prog E cx n22_32 st = thenS (codeB Try.prog E cx n22_33 st) (codeB Try.prog E cx n22_36) := GE.seq_step (by kernel_rfl)
theorem n22_30s : codeB Try.prog E cx n22_30 st = thenS (codeB Try.prog E cx n22_31 st) (codeB Try.prog E cx n22_32) := GE.seq_step (by kernel_rfl)
theorem n22_29k : LL.kp (⟨22, 46, b, ro⟩ : Cx).fn (4 * rid n22_30 + 3) = some ⟨[3, 28, 29, 30], [⟨28, 0, 3, true⟩]⟩ := by kernel_rfl
theorem n22_29s : codeB Try.prog LL ⟨22, 46, b, ro⟩ n22_29 st = headS b ⟨[3, 28, 29, 30], [⟨28, 0, 3, true⟩]⟩ st (lpB Try.prog LL ⟨22, 46, b, ro⟩ n22_29 n22_30) := GE.lpB_step (by kernel_rfl) (n22_29k b ro)
theorem n22_29g : LL.code ⟨22, 46, b, ro⟩ n22_29 st = headS b ⟨[3, 28, 29, 30], [⟨28, 0, 3, true⟩]⟩ st (lpB Try.prog LL ⟨22, 46, b, ro⟩ n22_29 n22_30) := GE.lpB_again (by kernel_rfl) (n22_29k b ro)
theorem n22_28s : codeB Try.prog E cx n22_28 st = blockS 1 (codeB Try.prog E cx n22_29 st) st := GE.block_step (by kernel_rfl)
theorem n22_26s : codeB Try.prog E cx n22_26 st = thenS (codeB Try.prog E cx n22_27 st) (codeB Try.prog E cx n22_28) := GE.seq_step (by kernel_rfl)
theorem n22_58s : codeB Try.prog E ⟨f, 46, b, ro⟩ n22_58 st = plainS (runOps Try.prog E b q22_58 (ops [true, true, true, true, false] Try.f22) st) := GE.region_step (id := 17) (GE.reg_of (by kernel_rfl)) (by kernel_rfl)
theorem n22_59s : codeB Try.prog LL ⟨22, 46, b, ro⟩ n22_59 st = normS b ⟨[2], []⟩ .ret st := GE.ret_step (by kernel_rfl) (by kernel_rfl)
theorem n22_57s : codeB Try.prog E cx n22_57 st = thenS (codeB Try.prog E cx n22_58 st) (codeB Try.prog E cx n22_59) := GE.seq_step (by kernel_rfl)
theorem n22_25s : codeB Try.prog E cx n22_25 st = thenS (codeB Try.prog E cx n22_26 st) (codeB Try.prog E cx n22_57) := GE.seq_step (by kernel_rfl)
theorem n22_23s : codeB Try.prog E cx n22_23 st = thenS (codeB Try.prog E cx n22_24 st) (codeB Try.prog E cx n22_25) := GE.seq_step (by kernel_rfl)
theorem n22_2s : codeB Try.prog E cx n22_2 st = thenS (codeB Try.prog E cx n22_3 st) (codeB Try.prog E cx n22_23) := GE.seq_step (by kernel_rfl)
theorem n22_0s : codeB Try.prog E cx n22_0 st = thenS (codeB Try.prog E cx n22_1 st) (codeB Try.prog E cx n22_2) := GE.seq_step (by kernel_rfl)
noncomputable def n29_0 : Code := bodyOf Try.f29
noncomputable def n29_1 : Code := cl n29_0
noncomputable def q29_1 : List Oper := opsOf n29_1
noncomputable def n29_2 : Code := cr n29_0
noncomputable def n29_3 : Code := cl n29_2
noncomputable def q29_3 : List Oper := opsOf n29_3
noncomputable def n29_4 : Code := cr n29_2
noncomputable def n29_5 : Code := cl n29_4
noncomputable def n29_6 : Code := cl n29_5
noncomputable def n29_7 : Code := cl n29_6
noncomputable def q29_7 : List Oper := opsOf n29_7
noncomputable def n29_8 : Code := cr n29_6
noncomputable def n29_9 : Code := cl n29_8
noncomputable def n29_10 : Code := cl n29_9
noncomputable def q29_10 : List Oper := opsOf n29_10
noncomputable def n29_11 : Code := cr n29_9
noncomputable def n29_12 : Code := cr n29_8
noncomputable def n29_13 : Code := cl n29_12
noncomputable def q29_13 : List Oper := opsOf n29_13
noncomputable def n29_14 : Code := cr n29_12
noncomputable def n29_15 : Code := cl n29_14
noncomputable def n29_16 : Code := cl n29_15
noncomputable def q29_16 : List Oper := opsOf n29_16
noncomputable def n29_17 : Code := cr n29_15
noncomputable def n29_18 : Code := cr n29_14
noncomputable def n29_19 : Code := cr n29_4
noncomputable def n29_20 : Code := cl n29_19
noncomputable def q29_20 : List Oper := opsOf n29_20
noncomputable def n29_21 : Code := cr n29_19
noncomputable def n29_22 : Code := cl n29_21
noncomputable def n29_23 : Code := cl n29_22
noncomputable def q29_23 : List Oper := opsOf n29_23
noncomputable def n29_24 : Code := cr n29_22
noncomputable def n29_25 : Code := cl n29_24
noncomputable def n29_26 : Code := cl n29_25
noncomputable def q29_26 : List Oper := opsOf n29_26
noncomputable def n29_27 : Code := cr n29_25
noncomputable def n29_28 : Code := cr n29_24
noncomputable def n29_29 : Code := cr n29_21
noncomputable def n29_30 : Code := cl n29_29
noncomputable def q29_30 : List Oper := opsOf n29_30
noncomputable def n29_31 : Code := cr n29_29
theorem body29 : Try.f29.body = some n29_0 := by kernel_rfl
theorem run29 (E : Ev) (args : List Value) (h : List Blk) (hl : args.length ≤ 36) : runB Try.prog E 29 args h = endS Try.prog [.cell 6 57, .tmp 7] h.length (codeB Try.prog E ⟨29, 36, h.length, none⟩ n29_0 ⟨enumT 0 args, h, []⟩) := GE.run_step Try.func29 body29 (by kernel_rfl) (by decide) (by kernel_rfl) hl
theorem n29_1s : codeB Try.prog E ⟨f, 36, b, ro⟩ n29_1 st = plainS (runOps Try.prog E b q29_1 (ops [false] Try.f29) st) := GE.region_step (id := 0) (GE.reg_of (by kernel_rfl)) (by kernel_rfl)
theorem n29_3s : codeB Try.prog E ⟨f, 36, b, ro⟩ n29_3 st = plainS (runOps Try.prog E b q29_3 (ops [true, false] Try.f29) st) := GE.region_step (id := 1) (GE.reg_of (by kernel_rfl)) (by kernel_rfl)
theorem n29_7s : codeB Try.prog E ⟨f, 36, b, ro⟩ n29_7 st = plainS (runOps Try.prog E b q29_7 (ops [true, true, false, false, false] Try.f29) st) := GE.region_step (id := 2) (GE.reg_of (by kernel_rfl)) (by kernel_rfl)
theorem n29_10s : codeB Try.prog E ⟨f, 36, b, ro⟩ n29_10 st = plainS (runOps Try.prog E b q29_10 (ops [true, true, false, false, true, false, false] Try.f29) st) := GE.region_step (id := 3) (GE.reg_of (by kernel_rfl)) (by kernel_rfl)
theorem n29_11s : codeB Try.prog LL ⟨29, 36, b, ro⟩ n29_11 st = normS b ⟨[6, 7], []⟩ .ret st := GE.ret_step (by kernel_rfl) (by kernel_rfl)
theorem n29_9s : codeB Try.prog E cx n29_9 st = thenS (codeB Try.prog E cx n29_10 st) (codeB Try.prog E cx n29_11) := GE.seq_step (by kernel_rfl)
theorem n29_13s : codeB Try.prog E ⟨f, 36, b, ro⟩ n29_13 st = plainS (runOps Try.prog E b q29_13 (ops [true, true, false, false, true, true, false] Try.f29) st) := GE.region_step (id := 4) (GE.reg_of (by kernel_rfl)) (by kernel_rfl)
theorem n29_16s : codeB Try.prog E ⟨f, 36, b, ro⟩ n29_16 st = plainS (runOps Try.prog E b q29_16 (ops [true, true, false, false, true, true, true, false, false] Try.f29) st) := GE.region_step (id := 5) (GE.reg_of (by kernel_rfl)) (by kernel_rfl)
theorem n29_17s : codeB Try.prog LL ⟨29, 36, b, ro⟩ n29_17 st = normS b ⟨[6, 7], []⟩ .ret st := GE.ret_step (by kernel_rfl) (by kernel_rfl)
theorem n29_15s : codeB Try.prog E cx n29_15 st = thenS (codeB Try.prog E cx n29_16 st) (codeB Try.prog E cx n29_17) := GE.seq_step (by kernel_rfl)
theorem n29_18s : codeB Try.prog E cx n29_18 st = some (.normal, st) := GE.skip_step (by kernel_rfl)
theorem n29_14s : codeB Try.prog E cx n29_14 st = condS (codeB Try.prog E cx n29_15) (codeB Try.prog E cx n29_18) (lk st.σ 22) st := GE.cond_step (c := .tmp 22) (by kernel_rfl)
theorem n29_12s : codeB Try.prog E cx n29_12 st = thenS (codeB Try.prog E cx n29_13 st) (codeB Try.prog E cx n29_14) := GE.seq_step (by kernel_rfl)
theorem n29_8s : codeB Try.prog E cx n29_8 st = condS (codeB Try.prog E cx n29_9) (codeB Try.prog E cx n29_12) (lk st.σ 17) st := GE.cond_step (c := .tmp 17) (by kernel_rfl)
theorem n29_6s : codeB Try.prog E cx n29_6 st = thenS (codeB Try.prog E cx n29_7 st) (codeB Try.prog E cx n29_8) := GE.seq_step (by kernel_rfl)
theorem n29_5s : codeB Try.prog E cx n29_5 st = blockS 0 (codeB Try.prog E cx n29_6 st) st := GE.block_step (by kernel_rfl)
theorem n29_20s : codeB Try.prog E ⟨f, 36, b, ro⟩ n29_20 st = plainS (runOps Try.prog E b q29_20 (ops [true, true, true, false] Try.f29) st) := GE.region_step (id := 6) (GE.reg_of (by kernel_rfl)) (by kernel_rfl)
theorem n29_23s : codeB Try.prog E ⟨f, 36, b, ro⟩ n29_23 st = plainS (runOps Try.prog E b q29_23 (ops [true, true, true, true, false, false] Try.f29) st) := GE.region_step (id := 7) (GE.reg_of (by kernel_rfl)) (by kernel_rfl)
theorem n29_26s : codeB Try.prog E ⟨f, 36, b, ro⟩ n29_26 st = plainS (runOps Try.prog E b q29_26 (ops [true, true, true, true, false, true, false, false] Try.f29) st) := GE.region_step (id := 8) (GE.reg_of (by kernel_rfl)) (by kernel_rfl)
theorem n29_27s : codeB Try.prog LL ⟨29, 36, b, ro⟩ n29_27 st = normS b ⟨[6, 7], []⟩ .ret st := GE.ret_step (by kernel_rfl) (by kernel_rfl)
theorem n29_25s : codeB Try.prog E cx n29_25 st = thenS (codeB Try.prog E cx n29_26 st) (codeB Try.prog E cx n29_27) := GE.seq_step (by kernel_rfl)
theorem n29_28s : codeB Try.prog E cx n29_28 st = some (.normal, st) := GE.skip_step (by kernel_rfl)
theorem n29_24s : codeB Try.prog E cx n29_24 st = condS (codeB Try.prog E cx n29_25) (codeB Try.prog E cx n29_28) (lk st.σ 32) st := GE.cond_step (c := .tmp 32) (by kernel_rfl)
theorem n29_22s : codeB Try.prog E cx n29_22 st = thenS (codeB Try.prog E cx n29_23 st) (codeB Try.prog E cx n29_24) := GE.seq_step (by kernel_rfl)
theorem n29_30s : codeB Try.prog E ⟨f, 36, b, ro⟩ n29_30 st = plainS (runOps Try.prog E b q29_30 (ops [true, true, true, true, true, false] Try.f29) st) := GE.region_step (id := 9) (GE.reg_of (by kernel_rfl)) (by kernel_rfl)
theorem n29_31s : codeB Try.prog LL ⟨29, 36, b, ro⟩ n29_31 st = normS b ⟨[6, 7], []⟩ .ret st := GE.ret_step (by kernel_rfl) (by kernel_rfl)
theorem n29_29s : codeB Try.prog E cx n29_29 st = thenS (codeB Try.prog E cx n29_30 st) (codeB Try.prog E cx n29_31) := GE.seq_step (by kernel_rfl)
theorem n29_21s : codeB Try.prog E cx n29_21 st = thenS (codeB Try.prog E cx n29_22 st) (codeB Try.prog E cx n29_29) := GE.seq_step (by kernel_rfl)
theorem n29_19s : codeB Try.prog E cx n29_19 st = thenS (codeB Try.prog E cx n29_20 st) (codeB Try.prog E cx n29_21) := GE.seq_step (by kernel_rfl)
theorem n29_4s : codeB Try.prog E cx n29_4 st = thenS (codeB Try.prog E cx n29_5 st) (codeB Try.prog E cx n29_19) := GE.seq_step (by kernel_rfl)
theorem n29_2s : codeB Try.prog E cx n29_2 st = thenS (codeB Try.prog E cx n29_3 st) (codeB Try.prog E cx n29_4) := GE.seq_step (by kernel_rfl)
theorem n29_0s : codeB Try.prog E cx n29_0 st = thenS (codeB Try.prog E cx n29_1 st) (codeB Try.prog E cx n29_2) := GE.seq_step (by kernel_rfl)
noncomputable def n43_0 : Code := bodyOf Try.f43
noncomputable def n43_1 : Code := cl n43_0
noncomputable def q43_1 : List Oper := opsOf n43_1
noncomputable def n43_2 : Code := cr n43_0
noncomputable def n43_3 : Code := cl n43_2
noncomputable def q43_3 : List Oper := opsOf n43_3
noncomputable def n43_4 : Code := cr n43_2
theorem body43 : Try.f43.body = some n43_0 := by kernel_rfl
theorem run43 (E : Ev) (args : List Value) (h : List Blk) (hl : args.length ≤ 12) : runB Try.prog E 43 args h = endS Try.prog [.cell 6 59] h.length (codeB Try.prog E ⟨43, 12, h.length, none⟩ n43_0 ⟨enumT 0 args, h, []⟩) := GE.run_step Try.func43 body43 (by kernel_rfl) (by decide) (by kernel_rfl) hl
theorem n43_1s : codeB Try.prog E ⟨f, 12, b, ro⟩ n43_1 st = plainS (runOps Try.prog E b q43_1 (ops [false] Try.f43) st) := GE.region_step (id := 0) (GE.reg_of (by kernel_rfl)) (by kernel_rfl)
theorem n43_3s : codeB Try.prog E ⟨f, 12, b, ro⟩ n43_3 st = plainS (runOps Try.prog E b q43_3 (ops [true, false] Try.f43) st) := GE.region_step (id := 1) (GE.reg_of (by kernel_rfl)) (by kernel_rfl)
theorem n43_4s : codeB Try.prog LL ⟨43, 12, b, ro⟩ n43_4 st = normS b ⟨[6], []⟩ .ret st := GE.ret_step (by kernel_rfl) (by kernel_rfl)
theorem n43_2s : codeB Try.prog E cx n43_2 st = thenS (codeB Try.prog E cx n43_3 st) (codeB Try.prog E cx n43_4) := GE.seq_step (by kernel_rfl)
theorem n43_0s : codeB Try.prog E cx n43_0 st = thenS (codeB Try.prog E cx n43_1 st) (codeB Try.prog E cx n43_2) := GE.seq_step (by kernel_rfl)
noncomputable def n49_0 : Code := bodyOf Try.f49
noncomputable def n49_1 : Code := cl n49_0
noncomputable def q49_1 : List Oper := opsOf n49_1
noncomputable def n49_2 : Code := cr n49_0
noncomputable def n49_3 : Code := cl n49_2
noncomputable def q49_3 : List Oper := opsOf n49_3
noncomputable def n49_4 : Code := cr n49_2
noncomputable def n49_5 : Code := cl n49_4
noncomputable def n49_6 : Code := cl n49_5
noncomputable def q49_6 : List Oper := opsOf n49_6
noncomputable def n49_7 : Code := cr n49_5
noncomputable def n49_8 : Code := cl n49_7
noncomputable def n49_9 : Code := cl n49_8
noncomputable def n49_10 : Code := cl n49_9
noncomputable def q49_10 : List Oper := opsOf n49_10
noncomputable def n49_11 : Code := cr n49_9
noncomputable def n49_12 : Code := cl n49_11
noncomputable def n49_13 : Code := cl n49_12
noncomputable def n49_14 : Code := cr n49_12
noncomputable def n49_15 : Code := cr n49_11
noncomputable def n49_16 : Code := cl n49_15
noncomputable def n49_17 : Code := cl n49_16
noncomputable def n49_18 : Code := cl n49_17
noncomputable def q49_18 : List Oper := opsOf n49_18
noncomputable def n49_19 : Code := cr n49_17
noncomputable def q49_19 : List Oper := opsOf n49_19
noncomputable def n49_20 : Code := cr n49_15
noncomputable def q49_20 : List Oper := opsOf n49_20
noncomputable def n49_21 : Code := cr n49_4
noncomputable def n49_22 : Code := cl n49_21
noncomputable def q49_22 : List Oper := opsOf n49_22
noncomputable def n49_23 : Code := cr n49_21
theorem body49 : Try.f49.body = some n49_0 := by kernel_rfl
theorem run49 (E : Ev) (args : List Value) (h : List Blk) (hl : args.length ≤ 22) : runB Try.prog E 49 args h = endS Try.prog [.tmp 4] h.length (codeB Try.prog E ⟨49, 22, h.length, none⟩ n49_0 ⟨enumT 0 args, h, []⟩) := GE.run_step Try.func49 body49 (by kernel_rfl) (by decide) (by kernel_rfl) hl
theorem n49_1s : codeB Try.prog E ⟨f, 22, b, ro⟩ n49_1 st = plainS (runOps Try.prog E b q49_1 (ops [false] Try.f49) st) := GE.region_step (id := 0) (GE.reg_of (by kernel_rfl)) (by kernel_rfl)
theorem n49_3s : codeB Try.prog E ⟨f, 22, b, ro⟩ n49_3 st = plainS (runOps Try.prog E b q49_3 (ops [true, false] Try.f49) st) := GE.region_step (id := 1) (GE.reg_of (by kernel_rfl)) (by kernel_rfl)
theorem n49_6s : codeB Try.prog E ⟨f, 22, b, ro⟩ n49_6 st = plainS (runOps Try.prog E b q49_6 (ops [true, true, false, false] Try.f49) st) := GE.region_step (id := 2) (GE.reg_of (by kernel_rfl)) (by kernel_rfl)
theorem n49_10s : codeB Try.prog E ⟨f, 22, b, ro⟩ n49_10 st = plainS (runOps Try.prog E b q49_10 (ops [true, true, false, true, false, false, false] Try.f49) st) := GE.region_step (id := 3) (GE.reg_of (by kernel_rfl)) (by kernel_rfl)
theorem n49_13s : codeB Try.prog E cx n49_13 st = some (.normal, st) := GE.skip_step (by kernel_rfl)
theorem n49_14s : codeB Try.prog LL ⟨49, 22, b, ro⟩ n49_14 st = normS b ⟨[5], [⟨5, 0, 1, true⟩]⟩ (.exit 0) st := GE.exit_step (by kernel_rfl) (by kernel_rfl)
theorem n49_12s : codeB Try.prog E cx n49_12 st = condS (codeB Try.prog E cx n49_13) (codeB Try.prog E cx n49_14) (lk st.σ 11) st := GE.cond_step (c := .tmp 11) (by kernel_rfl)
theorem n49_18s : codeB Try.prog E ⟨f, 22, b, ro⟩ n49_18 st = plainS (runOps Try.prog E b q49_18 (ops [true, true, false, true, false, false, true, true, false, false, false] Try.f49) st) := GE.region_step (id := 4) (GE.reg_of (by kernel_rfl)) (by kernel_rfl)
theorem n49_19s : codeB Try.prog E ⟨f, 22, b, ro⟩ n49_19 st = plainS (runOps Try.prog E b q49_19 (ops [true, true, false, true, false, false, true, true, false, false, true] Try.f49) st) := GE.region_step (id := 5) (GE.reg_of (by kernel_rfl)) (by kernel_rfl)
theorem n49_17s : codeB Try.prog E cx n49_17 st = thenS (codeB Try.prog E cx n49_18 st) (codeB Try.prog E cx n49_19) := GE.seq_step (by kernel_rfl)
theorem n49_16s : codeB Try.prog E cx n49_16 st = blockS 1 (codeB Try.prog E cx n49_17 st) st := GE.block_step (by kernel_rfl)
theorem n49_20s : codeB Try.prog E ⟨f, 22, b, ro⟩ n49_20 st = plainS (runOps Try.prog E b q49_20 (ops [true, true, false, true, false, false, true, true, true] Try.f49) st) := GE.region_step (id := 6) (GE.reg_of (by kernel_rfl)) (by kernel_rfl)
theorem n49_15s : codeB Try.prog E cx n49_15 st = thenS (codeB Try.prog E cx n49_16 st) (codeB Try.prog E cx n49_20) := GE.seq_step (by kernel_rfl)
theorem n49_11s : codeB Try.prog E cx n49_11 st = thenS (codeB Try.prog E cx n49_12 st) (codeB Try.prog E cx n49_15) := GE.seq_step (by kernel_rfl)
theorem n49_9s : codeB Try.prog E cx n49_9 st = thenS (codeB Try.prog E cx n49_10 st) (codeB Try.prog E cx n49_11) := GE.seq_step (by kernel_rfl)
theorem n49_8k : LL.kp (⟨49, 22, b, ro⟩ : Cx).fn (4 * rid n49_9 + 3) = some ⟨[1, 5, 8, 9, 10], [⟨5, 0, 1, true⟩, ⟨8, 0, 2, true⟩]⟩ := by kernel_rfl
theorem n49_8s : codeB Try.prog LL ⟨49, 22, b, ro⟩ n49_8 st = headS b ⟨[1, 5, 8, 9, 10], [⟨5, 0, 1, true⟩, ⟨8, 0, 2, true⟩]⟩ st (lpB Try.prog LL ⟨49, 22, b, ro⟩ n49_8 n49_9) := GE.lpB_step (by kernel_rfl) (n49_8k b ro)
theorem n49_8g : LL.code ⟨49, 22, b, ro⟩ n49_8 st = headS b ⟨[1, 5, 8, 9, 10], [⟨5, 0, 1, true⟩, ⟨8, 0, 2, true⟩]⟩ st (lpB Try.prog LL ⟨49, 22, b, ro⟩ n49_8 n49_9) := GE.lpB_again (by kernel_rfl) (n49_8k b ro)
theorem n49_7s : codeB Try.prog E cx n49_7 st = blockS 0 (codeB Try.prog E cx n49_8 st) st := GE.block_step (by kernel_rfl)
theorem n49_5s : codeB Try.prog E cx n49_5 st = thenS (codeB Try.prog E cx n49_6 st) (codeB Try.prog E cx n49_7) := GE.seq_step (by kernel_rfl)
theorem n49_22s : codeB Try.prog E ⟨f, 22, b, ro⟩ n49_22 st = plainS (runOps Try.prog E b q49_22 (ops [true, true, true, false] Try.f49) st) := GE.region_step (id := 7) (GE.reg_of (by kernel_rfl)) (by kernel_rfl)
theorem n49_23s : codeB Try.prog LL ⟨49, 22, b, ro⟩ n49_23 st = normS b ⟨[4], [⟨4, 0, 1, true⟩]⟩ .ret st := GE.ret_step (by kernel_rfl) (by kernel_rfl)
theorem n49_21s : codeB Try.prog E cx n49_21 st = thenS (codeB Try.prog E cx n49_22 st) (codeB Try.prog E cx n49_23) := GE.seq_step (by kernel_rfl)
theorem n49_4s : codeB Try.prog E cx n49_4 st = thenS (codeB Try.prog E cx n49_5 st) (codeB Try.prog E cx n49_21) := GE.seq_step (by kernel_rfl)
theorem n49_2s : codeB Try.prog E cx n49_2 st = thenS (codeB Try.prog E cx n49_3 st) (codeB Try.prog E cx n49_4) := GE.seq_step (by kernel_rfl)
theorem n49_0s : codeB Try.prog E cx n49_0 st = thenS (codeB Try.prog E cx n49_1 st) (codeB Try.prog E cx n49_2) := GE.seq_step (by kernel_rfl)
noncomputable def n50_0 : Code := bodyOf Try.f50
noncomputable def n50_1 : Code := cl n50_0
noncomputable def q50_1 : List Oper := opsOf n50_1
noncomputable def n50_2 : Code := cr n50_0
noncomputable def n50_3 : Code := cl n50_2
noncomputable def n50_4 : Code := cl n50_3
noncomputable def q50_4 : List Oper := opsOf n50_4
noncomputable def n50_5 : Code := cr n50_3
noncomputable def n50_6 : Code := cl n50_5
noncomputable def q50_6 : List Oper := opsOf n50_6
noncomputable def n50_7 : Code := cr n50_5
noncomputable def n50_8 : Code := cl n50_7
noncomputable def n50_9 : Code := cr n50_7
noncomputable def n50_10 : Code := cl n50_9
noncomputable def n50_11 : Code := cl n50_10
noncomputable def q50_11 : List Oper := opsOf n50_11
noncomputable def n50_12 : Code := cr n50_10
noncomputable def n50_13 : Code := cl n50_12
noncomputable def n50_14 : Code := cl n50_13
noncomputable def q50_14 : List Oper := opsOf n50_14
noncomputable def n50_15 : Code := cr n50_13
noncomputable def n50_16 : Code := cr n50_12
noncomputable def n50_17 : Code := cr n50_9
noncomputable def n50_18 : Code := cl n50_17
noncomputable def n50_19 : Code := cl n50_18
noncomputable def q50_19 : List Oper := opsOf n50_19
noncomputable def n50_20 : Code := cr n50_18
noncomputable def n50_21 : Code := cl n50_20
noncomputable def q50_21 : List Oper := opsOf n50_21
noncomputable def n50_22 : Code := cr n50_20
noncomputable def n50_23 : Code := cl n50_22
noncomputable def n50_24 : Code := cl n50_23
noncomputable def q50_24 : List Oper := opsOf n50_24
noncomputable def n50_25 : Code := cr n50_23
noncomputable def q50_25 : List Oper := opsOf n50_25
noncomputable def n50_26 : Code := cr n50_22
noncomputable def n50_27 : Code := cr n50_17
noncomputable def n50_28 : Code := cl n50_27
noncomputable def q50_28 : List Oper := opsOf n50_28
noncomputable def n50_29 : Code := cr n50_27
noncomputable def r50_0 : Code := .seq .skip n50_9
theorem body50 : Try.f50.body = some n50_0 := by kernel_rfl
theorem run50 (E : Ev) (args : List Value) (h : List Blk) (hl : args.length ≤ 33) : runB Try.prog E 50 args h = endS Try.prog [.tmp 2] h.length (codeB Try.prog E ⟨50, 33, h.length, none⟩ n50_0 ⟨enumT 0 args, h, []⟩) := GE.run_step Try.func50 body50 (by kernel_rfl) (by decide) (by kernel_rfl) hl
theorem n50_1s : codeB Try.prog E ⟨f, 33, b, ro⟩ n50_1 st = plainS (runOps Try.prog E b q50_1 (ops [false] Try.f50) st) := GE.region_step (id := 0) (GE.reg_of (by kernel_rfl)) (by kernel_rfl)
theorem n50_4s : codeB Try.prog E ⟨f, 33, b, ro⟩ n50_4 st = plainS (runOps Try.prog E b q50_4 (ops [true, false, false] Try.f50) st) := GE.region_step (id := 1) (GE.reg_of (by kernel_rfl)) (by kernel_rfl)
theorem n50_6s : codeB Try.prog E ⟨f, 33, b, ro⟩ n50_6 st = plainS (runOps Try.prog E b q50_6 (ops [true, false, true, false] Try.f50) st) := GE.region_step (id := 2) (GE.reg_of (by kernel_rfl)) (by kernel_rfl)
theorem n50_8s : codeB Try.prog LL ⟨50, 33, b, ro⟩ n50_8 st = normS b ⟨[1, 3, 4, 5], [⟨1, 2, 3, true⟩, ⟨3, 0, 2, true⟩]⟩ .normal st := GE.label_step (n := 0) (by kernel_rfl) (by kernel_rfl)
theorem n50_11s : codeB Try.prog E ⟨f, 33, b, ro⟩ n50_11 st = plainS (runOps Try.prog E b q50_11 (ops [true, false, true, true, true, false, false] Try.f50) st) := GE.region_step (id := 3) (GE.reg_of (by kernel_rfl)) (by kernel_rfl)
theorem n50_14s : codeB Try.prog E ⟨f, 33, b, ro⟩ n50_14 st = plainS (runOps Try.prog E b q50_14 (ops [true, false, true, true, true, false, true, false, false] Try.f50) st) := GE.region_step (id := 4) (GE.reg_of (by kernel_rfl)) (by kernel_rfl)
theorem n50_15s : codeB Try.prog LL ⟨50, 33, b, ro⟩ n50_15 st = normS b ⟨[2], [⟨2, 0, 2, true⟩]⟩ .ret st := GE.ret_step (by kernel_rfl) (by kernel_rfl)
theorem n50_13s : codeB Try.prog E cx n50_13 st = thenS (codeB Try.prog E cx n50_14 st) (codeB Try.prog E cx n50_15) := GE.seq_step (by kernel_rfl)
theorem n50_16s : codeB Try.prog E cx n50_16 st = some (.normal, st) := GE.skip_step (by kernel_rfl)
theorem n50_12s : codeB Try.prog E cx n50_12 st = condS (codeB Try.prog E cx n50_13) (codeB Try.prog E cx n50_16) (lk st.σ 11) st := GE.cond_step (c := .tmp 11) (by kernel_rfl)
theorem n50_10s : codeB Try.prog E cx n50_10 st = thenS (codeB Try.prog E cx n50_11 st) (codeB Try.prog E cx n50_12) := GE.seq_step (by kernel_rfl)
theorem n50_19s : codeB Try.prog E ⟨f, 33, b, ro⟩ n50_19 st = plainS (runOps Try.prog E b q50_19 (ops [true, false, true, true, true, true, false, false] Try.f50) st) := GE.region_step (id := 5) (GE.reg_of (by kernel_rfl)) (by kernel_rfl)
theorem n50_21s : codeB Try.prog E ⟨f, 33, b, ro⟩ n50_21 st = plainS (runOps Try.prog E b q50_21 (ops [true, false, true, true, true, true, false, true, false] Try.f50) st) := GE.region_step (id := 6) (GE.reg_of (by kernel_rfl)) (by kernel_rfl)
theorem n50_24s : codeB Try.prog E ⟨f, 33, b, ro⟩ n50_24 st = plainS (runOps Try.prog E b q50_24 (ops [true, false, true, true, true, true, false, true, true, false, false] Try.f50) st) := GE.region_step (id := 7) (GE.reg_of (by kernel_rfl)) (by kernel_rfl)
theorem n50_25s : codeB Try.prog E ⟨f, 33, b, ro⟩ n50_25 st = plainS (runOps Try.prog E b q50_25 (ops [true, false, true, true, true, true, false, true, true, false, true] Try.f50) st) := GE.region_step (id := 8) (GE.reg_of (by kernel_rfl)) (by kernel_rfl)
theorem n50_23s : codeB Try.prog E cx n50_23 st = thenS (codeB Try.prog E cx n50_24 st) (codeB Try.prog E cx n50_25) := GE.seq_step (by kernel_rfl)
theorem n50_26s : codeB Try.prog E cx n50_26 st = some (.normal, st) := GE.skip_step (by kernel_rfl)
theorem n50_22s : codeB Try.prog E cx n50_22 st = condS (codeB Try.prog E cx n50_23) (codeB Try.prog E cx n50_26) (lk st.σ 21) st := GE.cond_step (c := .tmp 21) (by kernel_rfl)
theorem n50_20s : codeB Try.prog E cx n50_20 st = thenS (codeB Try.prog E cx n50_21 st) (codeB Try.prog E cx n50_22) := GE.seq_step (by kernel_rfl)
theorem n50_18s : codeB Try.prog E cx n50_18 st = thenS (codeB Try.prog E cx n50_19 st) (codeB Try.prog E cx n50_20) := GE.seq_step (by kernel_rfl)
theorem n50_28s : codeB Try.prog E ⟨f, 33, b, ro⟩ n50_28 st = plainS (runOps Try.prog E b q50_28 (ops [true, false, true, true, true, true, true, false] Try.f50) st) := GE.region_step (id := 9) (GE.reg_of (by kernel_rfl)) (by kernel_rfl)
theorem n50_29s : codeB Try.prog E cx n50_29 st = some (.goto 0, st) := GE.goto_step (by kernel_rfl)
theorem n50_27s : codeB Try.prog E cx n50_27 st = thenS (codeB Try.prog E cx n50_28 st) (codeB Try.prog E cx n50_29) := GE.seq_step (by kernel_rfl)
theorem n50_17s : codeB Try.prog E cx n50_17 st = thenS (codeB Try.prog E cx n50_18 st) (codeB Try.prog E cx n50_27) := GE.seq_step (by kernel_rfl)
theorem n50_9s : codeB Try.prog E cx n50_9 st = thenS (codeB Try.prog E cx n50_10 st) (codeB Try.prog E cx n50_17) := GE.seq_step (by kernel_rfl)
theorem n50_7s : codeB Try.prog E cx n50_7 st = thenS (codeB Try.prog E cx n50_8 st) (codeB Try.prog E cx n50_9) := GE.seq_step (by kernel_rfl)
theorem n50_5s : codeB Try.prog E cx n50_5 st = thenS (codeB Try.prog E cx n50_6 st) (codeB Try.prog E cx n50_7) := GE.seq_step (by kernel_rfl)
theorem n50_3s : codeB Try.prog E cx n50_3 st = thenS (codeB Try.prog E cx n50_4 st) (codeB Try.prog E cx n50_5) := GE.seq_step (by kernel_rfl)
theorem n50_2s : codeB Try.prog E cx n50_2 st = gotoS Try.prog E cx n50_3 (codeB Try.prog E cx n50_3 st) := GE.scopeK_step (by kernel_rfl)
theorem n50_2j0 : gotoL Try.prog LL ⟨50, 33, b, ro⟩ n50_3 0 st = headS b ⟨[1, 3, 4, 5], [⟨1, 2, 3, true⟩, ⟨3, 0, 2, true⟩]⟩ st (scpL Try.prog LL ⟨50, 33, b, ro⟩ n50_3 r50_0) := GE.gotoL_step (by kernel_rfl) (by kernel_rfl)
theorem n50_2i0 : codeB Try.prog LL ⟨f, nt, b, ro⟩ r50_0 st = codeB Try.prog LL ⟨f, nt, b, ro⟩ n50_9 st := rfl
theorem n50_0s : codeB Try.prog E cx n50_0 st = thenS (codeB Try.prog E cx n50_1 st) (codeB Try.prog E cx n50_2) := GE.seq_step (by kernel_rfl)
noncomputable def n51_0 : Code := bodyOf Try.f51
noncomputable def n51_1 : Code := cl n51_0
noncomputable def q51_1 : List Oper := opsOf n51_1
noncomputable def n51_2 : Code := cr n51_0
noncomputable def n51_3 : Code := cl n51_2
noncomputable def q51_3 : List Oper := opsOf n51_3
noncomputable def n51_4 : Code := cr n51_2
theorem body51 : Try.f51.body = some n51_0 := by kernel_rfl
theorem run51 (E : Ev) (args : List Value) (h : List Blk) (hl : args.length ≤ 12) : runB Try.prog E 51 args h = endS Try.prog [.tmp 3] h.length (codeB Try.prog E ⟨51, 12, h.length, none⟩ n51_0 ⟨enumT 0 args, h, []⟩) := GE.run_step Try.func51 body51 (by kernel_rfl) (by decide) (by kernel_rfl) hl
theorem n51_1s : codeB Try.prog E ⟨f, 12, b, ro⟩ n51_1 st = plainS (runOps Try.prog E b q51_1 (ops [false] Try.f51) st) := GE.region_step (id := 0) (GE.reg_of (by kernel_rfl)) (by kernel_rfl)
theorem n51_3s : codeB Try.prog E ⟨f, 12, b, ro⟩ n51_3 st = plainS (runOps Try.prog E b q51_3 (ops [true, false] Try.f51) st) := GE.region_step (id := 1) (GE.reg_of (by kernel_rfl)) (by kernel_rfl)
theorem n51_4s : codeB Try.prog LL ⟨51, 12, b, ro⟩ n51_4 st = normS b ⟨[3], []⟩ .ret st := GE.ret_step (by kernel_rfl) (by kernel_rfl)
theorem n51_2s : codeB Try.prog E cx n51_2 st = thenS (codeB Try.prog E cx n51_3 st) (codeB Try.prog E cx n51_4) := GE.seq_step (by kernel_rfl)
theorem n51_0s : codeB Try.prog E cx n51_0 st = thenS (codeB Try.prog E cx n51_1 st) (codeB Try.prog E cx n51_2) := GE.seq_step (by kernel_rfl)
noncomputable def n53_0 : Code := bodyOf Try.f53
noncomputable def n53_1 : Code := cl n53_0
noncomputable def q53_1 : List Oper := opsOf n53_1
noncomputable def n53_2 : Code := cr n53_0
noncomputable def n53_3 : Code := cl n53_2
noncomputable def q53_3 : List Oper := opsOf n53_3
noncomputable def n53_4 : Code := cr n53_2
noncomputable def n53_5 : Code := cl n53_4
noncomputable def n53_6 : Code := cl n53_5
noncomputable def q53_6 : List Oper := opsOf n53_6
noncomputable def n53_7 : Code := cr n53_5
noncomputable def n53_8 : Code := cl n53_7
noncomputable def n53_9 : Code := cl n53_8
noncomputable def q53_9 : List Oper := opsOf n53_9
noncomputable def n53_10 : Code := cr n53_8
noncomputable def n53_11 : Code := cr n53_7
noncomputable def n53_12 : Code := cr n53_4
noncomputable def n53_13 : Code := cl n53_12
noncomputable def q53_13 : List Oper := opsOf n53_13
noncomputable def n53_14 : Code := cr n53_12
theorem body53 : Try.f53.body = some n53_0 := by kernel_rfl
theorem run53 (E : Ev) (args : List Value) (h : List Blk) (hl : args.length ≤ 24) : runB Try.prog E 53 args h = endS Try.prog [.cell 4 115, .tmp 5] h.length (codeB Try.prog E ⟨53, 24, h.length, none⟩ n53_0 ⟨enumT 0 args, h, []⟩) := GE.run_step Try.func53 body53 (by kernel_rfl) (by decide) (by kernel_rfl) hl
theorem n53_1s : codeB Try.prog E ⟨f, 24, b, ro⟩ n53_1 st = plainS (runOps Try.prog E b q53_1 (ops [false] Try.f53) st) := GE.region_step (id := 0) (GE.reg_of (by kernel_rfl)) (by kernel_rfl)
theorem n53_3s : codeB Try.prog E ⟨f, 24, b, ro⟩ n53_3 st = plainS (runOps Try.prog E b q53_3 (ops [true, false] Try.f53) st) := GE.region_step (id := 1) (GE.reg_of (by kernel_rfl)) (by kernel_rfl)
theorem q53_6g2 : gd q53_6 2 = some 16 := by kernel_rfl
theorem n53_6s : codeB Try.prog E ⟨f, 24, b, ro⟩ n53_6 st = plainS (runOps Try.prog E b q53_6 (ops [true, true, false, false] Try.f53) st) := GE.region_step (id := 2) (GE.reg_of (by kernel_rfl)) (by kernel_rfl)
theorem n53_9s : codeB Try.prog E ⟨f, 24, b, ro⟩ n53_9 st = plainS (runOps Try.prog E b q53_9 (ops [true, true, false, true, false, false] Try.f53) st) := GE.region_step (id := 3) (GE.reg_of (by kernel_rfl)) (by kernel_rfl)
theorem n53_10s : codeB Try.prog LL ⟨53, 24, b, ro⟩ n53_10 st = normS b ⟨[4, 5], [⟨4, 2, 3, true⟩, ⟨4, 3, 1, true⟩]⟩ .ret st := GE.ret_step (by kernel_rfl) (by kernel_rfl)
theorem n53_8s : codeB Try.prog E cx n53_8 st = thenS (codeB Try.prog E cx n53_9 st) (codeB Try.prog E cx n53_10) := GE.seq_step (by kernel_rfl)
theorem n53_11s : codeB Try.prog E cx n53_11 st = some (.normal, st) := GE.skip_step (by kernel_rfl)
theorem n53_7s : codeB Try.prog E cx n53_7 st = condS (codeB Try.prog E cx n53_8) (codeB Try.prog E cx n53_11) (lk st.σ 20) st := GE.cond_step (c := .tmp 20) (by kernel_rfl)
theorem n53_5s : codeB Try.prog E cx n53_5 st = thenS (codeB Try.prog E cx n53_6 st) (codeB Try.prog E cx n53_7) := GE.seq_step (by kernel_rfl)
theorem n53_13s : codeB Try.prog E ⟨f, 24, b, ro⟩ n53_13 st = plainS (runOps Try.prog E b q53_13 (ops [true, true, true, false] Try.f53) st) := GE.region_step (id := 4) (GE.reg_of (by kernel_rfl)) (by kernel_rfl)
theorem n53_14s : codeB Try.prog LL ⟨53, 24, b, ro⟩ n53_14 st = normS b ⟨[4, 5], [⟨4, 2, 3, true⟩, ⟨4, 3, 1, true⟩]⟩ .ret st := GE.ret_step (by kernel_rfl) (by kernel_rfl)
theorem n53_12s : codeB Try.prog E cx n53_12 st = thenS (codeB Try.prog E cx n53_13 st) (codeB Try.prog E cx n53_14) := GE.seq_step (by kernel_rfl)
theorem n53_4s : codeB Try.prog E cx n53_4 st = thenS (codeB Try.prog E cx n53_5 st) (codeB Try.prog E cx n53_12) := GE.seq_step (by kernel_rfl)
theorem n53_2s : codeB Try.prog E cx n53_2 st = thenS (codeB Try.prog E cx n53_3 st) (codeB Try.prog E cx n53_4) := GE.seq_step (by kernel_rfl)
theorem n53_0s : codeB Try.prog E cx n53_0 st = thenS (codeB Try.prog E cx n53_1 st) (codeB Try.prog E cx n53_2) := GE.seq_step (by kernel_rfl)
noncomputable def n56_0 : Code := bodyOf Try.f56
noncomputable def n56_1 : Code := cl n56_0
noncomputable def q56_1 : List Oper := opsOf n56_1
noncomputable def n56_2 : Code := cr n56_0
noncomputable def n56_3 : Code := cl n56_2
noncomputable def q56_3 : List Oper := opsOf n56_3
noncomputable def n56_4 : Code := cr n56_2
theorem body56 : Try.f56.body = some n56_0 := by kernel_rfl
theorem run56 (E : Ev) (args : List Value) (h : List Blk) (hl : args.length ≤ 15) : runB Try.prog E 56 args h = endS Try.prog [.tmp 6] h.length (codeB Try.prog E ⟨56, 15, h.length, none⟩ n56_0 ⟨enumT 0 args, h, []⟩) := GE.run_step Try.func56 body56 (by kernel_rfl) (by decide) (by kernel_rfl) hl
theorem n56_1s : codeB Try.prog E ⟨f, 15, b, ro⟩ n56_1 st = plainS (runOps Try.prog E b q56_1 (ops [false] Try.f56) st) := GE.region_step (id := 0) (GE.reg_of (by kernel_rfl)) (by kernel_rfl)
theorem q56_3g3 : gd q56_3 3 = some 10 := by kernel_rfl
theorem n56_3s : codeB Try.prog E ⟨f, 15, b, ro⟩ n56_3 st = plainS (runOps Try.prog E b q56_3 (ops [true, false] Try.f56) st) := GE.region_step (id := 1) (GE.reg_of (by kernel_rfl)) (by kernel_rfl)
theorem n56_4s : codeB Try.prog LL ⟨56, 15, b, ro⟩ n56_4 st = normS b ⟨[6], []⟩ .ret st := GE.ret_step (by kernel_rfl) (by kernel_rfl)
theorem n56_2s : codeB Try.prog E cx n56_2 st = thenS (codeB Try.prog E cx n56_3 st) (codeB Try.prog E cx n56_4) := GE.seq_step (by kernel_rfl)
theorem n56_0s : codeB Try.prog E cx n56_0 st = thenS (codeB Try.prog E cx n56_1 st) (codeB Try.prog E cx n56_2) := GE.seq_step (by kernel_rfl)
noncomputable def n57_0 : Code := bodyOf Try.f57
noncomputable def n57_1 : Code := cl n57_0
noncomputable def q57_1 : List Oper := opsOf n57_1
noncomputable def n57_2 : Code := cr n57_0
noncomputable def n57_3 : Code := cl n57_2
noncomputable def q57_3 : List Oper := opsOf n57_3
noncomputable def n57_4 : Code := cr n57_2
theorem body57 : Try.f57.body = some n57_0 := by kernel_rfl
theorem run57 (E : Ev) (args : List Value) (h : List Blk) (hl : args.length ≤ 21) : runB Try.prog E 57 args h = endS Try.prog [.tmp 2] h.length (codeB Try.prog E ⟨57, 21, h.length, none⟩ n57_0 ⟨enumT 0 args, h, []⟩) := GE.run_step Try.func57 body57 (by kernel_rfl) (by decide) (by kernel_rfl) hl
theorem n57_1s : codeB Try.prog E ⟨f, 21, b, ro⟩ n57_1 st = plainS (runOps Try.prog E b q57_1 (ops [false] Try.f57) st) := GE.region_step (id := 0) (GE.reg_of (by kernel_rfl)) (by kernel_rfl)
theorem q57_3g3 : gd q57_3 3 = some 6 := by kernel_rfl
theorem q57_3g12 : gd q57_3 12 = some 15 := by kernel_rfl
theorem n57_3s : codeB Try.prog E ⟨f, 21, b, ro⟩ n57_3 st = plainS (runOps Try.prog E b q57_3 (ops [true, false] Try.f57) st) := GE.region_step (id := 1) (GE.reg_of (by kernel_rfl)) (by kernel_rfl)
theorem n57_4s : codeB Try.prog LL ⟨57, 21, b, ro⟩ n57_4 st = normS b ⟨[2], []⟩ .ret st := GE.ret_step (by kernel_rfl) (by kernel_rfl)
theorem n57_2s : codeB Try.prog E cx n57_2 st = thenS (codeB Try.prog E cx n57_3 st) (codeB Try.prog E cx n57_4) := GE.seq_step (by kernel_rfl)
theorem n57_0s : codeB Try.prog E cx n57_0 st = thenS (codeB Try.prog E cx n57_1 st) (codeB Try.prog E cx n57_2) := GE.seq_step (by kernel_rfl)
noncomputable def n58_0 : Code := bodyOf Try.f58
noncomputable def n58_1 : Code := cl n58_0
noncomputable def q58_1 : List Oper := opsOf n58_1
noncomputable def n58_2 : Code := cr n58_0
noncomputable def n58_3 : Code := cl n58_2
noncomputable def q58_3 : List Oper := opsOf n58_3
noncomputable def n58_4 : Code := cr n58_2
noncomputable def n58_5 : Code := cl n58_4
noncomputable def q58_5 : List Oper := opsOf n58_5
noncomputable def n58_6 : Code := cr n58_4
theorem body58 : Try.f58.body = some n58_0 := by kernel_rfl
theorem run58 (E : Ev) (args : List Value) (h : List Blk) (hl : args.length ≤ 27) : runB Try.prog E 58 args h = endS Try.prog [.tmp 6] h.length (codeB Try.prog E ⟨58, 27, h.length, none⟩ n58_0 ⟨enumT 0 args, h, []⟩) := GE.run_step Try.func58 body58 (by kernel_rfl) (by decide) (by kernel_rfl) hl
theorem n58_1s : codeB Try.prog E ⟨f, 27, b, ro⟩ n58_1 st = plainS (runOps Try.prog E b q58_1 (ops [false] Try.f58) st) := GE.region_step (id := 0) (GE.reg_of (by kernel_rfl)) (by kernel_rfl)
theorem n58_3s : codeB Try.prog E ⟨f, 27, b, ro⟩ n58_3 st = plainS (runOps Try.prog E b q58_3 (ops [true, false] Try.f58) st) := GE.region_step (id := 1) (GE.reg_of (by kernel_rfl)) (by kernel_rfl)
theorem q58_5g6 : gd q58_5 6 = some 19 := by kernel_rfl
theorem n58_5s : codeB Try.prog E ⟨f, 27, b, ro⟩ n58_5 st = plainS (runOps Try.prog E b q58_5 (ops [true, true, false] Try.f58) st) := GE.region_step (id := 2) (GE.reg_of (by kernel_rfl)) (by kernel_rfl)
theorem n58_6s : codeB Try.prog LL ⟨58, 27, b, ro⟩ n58_6 st = normS b ⟨[6], []⟩ .ret st := GE.ret_step (by kernel_rfl) (by kernel_rfl)
theorem n58_4s : codeB Try.prog E cx n58_4 st = thenS (codeB Try.prog E cx n58_5 st) (codeB Try.prog E cx n58_6) := GE.seq_step (by kernel_rfl)
theorem n58_2s : codeB Try.prog E cx n58_2 st = thenS (codeB Try.prog E cx n58_3 st) (codeB Try.prog E cx n58_4) := GE.seq_step (by kernel_rfl)
theorem n58_0s : codeB Try.prog E cx n58_0 st = thenS (codeB Try.prog E cx n58_1 st) (codeB Try.prog E cx n58_2) := GE.seq_step (by kernel_rfl)
noncomputable def n61_0 : Code := bodyOf Try.f61
noncomputable def n61_1 : Code := cl n61_0
noncomputable def q61_1 : List Oper := opsOf n61_1
noncomputable def n61_2 : Code := cr n61_0
noncomputable def n61_3 : Code := cl n61_2
noncomputable def q61_3 : List Oper := opsOf n61_3
noncomputable def n61_4 : Code := cr n61_2
noncomputable def n61_5 : Code := cl n61_4
noncomputable def q61_5 : List Oper := opsOf n61_5
noncomputable def n61_6 : Code := cr n61_4
noncomputable def n61_7 : Code := cl n61_6
noncomputable def n61_8 : Code := cl n61_7
noncomputable def q61_8 : List Oper := opsOf n61_8
noncomputable def n61_9 : Code := cr n61_7
noncomputable def n61_10 : Code := cl n61_9
noncomputable def n61_11 : Code := cl n61_10
noncomputable def q61_11 : List Oper := opsOf n61_11
noncomputable def n61_12 : Code := cr n61_10
noncomputable def n61_13 : Code := cl n61_12
noncomputable def q61_13 : List Oper := opsOf n61_13
noncomputable def n61_14 : Code := cr n61_6
noncomputable def n61_15 : Code := cl n61_14
noncomputable def q61_15 : List Oper := opsOf n61_15
noncomputable def n61_16 : Code := cr n61_14
theorem body61 : Try.f61.body = some n61_0 := by kernel_rfl
theorem run61 (E : Ev) (args : List Value) (h : List Blk) (hl : args.length ≤ 25) : runB Try.prog E 61 args h = endS Try.prog [.cell 4 127] h.length (codeB Try.prog E ⟨61, 25, h.length, none⟩ n61_0 ⟨enumT 0 args, h, []⟩) := GE.run_step Try.func61 body61 (by kernel_rfl) (by decide) (by kernel_rfl) hl
theorem n61_1s : codeB Try.prog E ⟨f, 25, b, ro⟩ n61_1 st = plainS (runOps Try.prog E b q61_1 (ops [false] Try.f61) st) := GE.region_step (id := 0) (GE.reg_of (by kernel_rfl)) (by kernel_rfl)
theorem n61_3s : codeB Try.prog E ⟨f, 25, b, ro⟩ n61_3 st = plainS (runOps Try.prog E b q61_3 (ops [true, false] Try.f61) st) := GE.region_step (id := 1) (GE.reg_of (by kernel_rfl)) (by kernel_rfl)
theorem n61_5s : codeB Try.prog E ⟨f, 25, b, ro⟩ n61_5 st = plainS (runOps Try.prog E b q61_5 (ops [true, true, false] Try.f61) st) := GE.region_step (id := 2) (GE.reg_of (by kernel_rfl)) (by kernel_rfl)
theorem n61_8s : codeB Try.prog E ⟨f, 25, b, ro⟩ n61_8 st = drawS [0, 0, 0, 6, 15] (runOpsF Try.prog E b q61_8 (ops [true, true, true, false, false] Try.f61) st) := GE.draw_step (id := 3) (GE.reg_of (by kernel_rfl)) (by kernel_rfl) (by kernel_rfl) (by kernel_rfl)
theorem n61_11s : codeB Try.prog E ⟨f, 25, b, ro⟩ n61_11 st = plainS (runOps Try.prog E b q61_11 (ops [true, true, true, false, true, false, false] Try.f61) st) := GE.region_step (id := 4) (GE.reg_of (by kernel_rfl)) (by kernel_rfl)
theorem n61_13s : codeB Try.prog E ⟨f, 25, b, ro⟩ n61_13 st = drawS [0, 0, 2, 0, 0, 30, 63] (runOpsF Try.prog E b q61_13 (ops [true, true, true, false, true, false, true, false] Try.f61) st) := GE.draw_step (id := 5) (GE.reg_of (by kernel_rfl)) (by kernel_rfl) (by kernel_rfl) (by kernel_rfl)
theorem n61_12s : codeB Try.prog E cx n61_12 st = blockS 1 (codeB Try.prog E cx n61_13 st) st := GE.block_step (by kernel_rfl)
theorem n61_10e : n61_10 = .rangeFunc (.tmp 14) #[15, 16] n61_11 n61_12 := by kernel_rfl
theorem n61_10k : (ue n61_11).1 ++ (ue n61_12).1 = [16, 6, 2, 8, 3] := by kernel_rfl
theorem n61_9s : codeB Try.prog E cx n61_9 st = blockS 0 (codeB Try.prog E cx n61_10 st) st := GE.block_step (by kernel_rfl)
theorem n61_7s : codeB Try.prog E cx n61_7 st = thenS (codeB Try.prog E cx n61_8 st) (codeB Try.prog E cx n61_9) := GE.seq_step (by kernel_rfl)
theorem n61_15s : codeB Try.prog E ⟨f, 25, b, ro⟩ n61_15 st = plainS (runOps Try.prog E b q61_15 (ops [true, true, true, true, false] Try.f61) st) := GE.region_step (id := 6) (GE.reg_of (by kernel_rfl)) (by kernel_rfl)
theorem n61_16s : codeB Try.prog LL ⟨61, 25, b, ro⟩ n61_16 st = normS b ⟨[4], []⟩ .ret st := GE.ret_step (by kernel_rfl) (by kernel_rfl)
theorem n61_14s : codeB Try.prog E cx n61_14 st = thenS (codeB Try.prog E cx n61_15 st) (codeB Try.prog E cx n61_16) := GE.seq_step (by kernel_rfl)
theorem n61_6s : codeB Try.prog E cx n61_6 st = thenS (codeB Try.prog E cx n61_7 st) (codeB Try.prog E cx n61_14) := GE.seq_step (by kernel_rfl)
theorem n61_4s : codeB Try.prog E cx n61_4 st = thenS (codeB Try.prog E cx n61_5 st) (codeB Try.prog E cx n61_6) := GE.seq_step (by kernel_rfl)
theorem n61_2s : codeB Try.prog E cx n61_2 st = thenS (codeB Try.prog E cx n61_3 st) (codeB Try.prog E cx n61_4) := GE.seq_step (by kernel_rfl)
theorem n61_0s : codeB Try.prog E cx n61_0 st = thenS (codeB Try.prog E cx n61_1 st) (codeB Try.prog E cx n61_2) := GE.seq_step (by kernel_rfl)
noncomputable def n72_0 : Code := bodyOf Try.f72
noncomputable def n72_1 : Code := cl n72_0
noncomputable def q72_1 : List Oper := opsOf n72_1
noncomputable def n72_2 : Code := cr n72_0
noncomputable def n72_3 : Code := cl n72_2
noncomputable def n72_4 : Code := cl n72_3
noncomputable def q72_4 : List Oper := opsOf n72_4
noncomputable def n72_5 : Code := cr n72_3
noncomputable def n72_6 : Code := cl n72_5
noncomputable def q72_6 : List Oper := opsOf n72_6
noncomputable def n72_7 : Code := cr n72_5
noncomputable def n72_8 : Code := cl n72_7
noncomputable def n72_9 : Code := cl n72_8
noncomputable def q72_9 : List Oper := opsOf n72_9
noncomputable def n72_10 : Code := cr n72_8
noncomputable def n72_11 : Code := cr n72_7
noncomputable def n72_12 : Code := cr n72_2
noncomputable def n72_13 : Code := cl n72_12
noncomputable def n72_14 : Code := cl n72_13
noncomputable def q72_14 : List Oper := opsOf n72_14
noncomputable def n72_15 : Code := cr n72_13
noncomputable def n72_16 : Code := cl n72_15
noncomputable def n72_17 : Code := cl n72_16
noncomputable def q72_17 : List Oper := opsOf n72_17
noncomputable def n72_18 : Code := cr n72_16
noncomputable def n72_19 : Code := cr n72_15
noncomputable def n72_20 : Code := cr n72_12
noncomputable def n72_21 : Code := cl n72_20
noncomputable def q72_21 : List Oper := opsOf n72_21
noncomputable def n72_22 : Code := cr n72_20
noncomputable def n72_23 : Code := cl n72_22
noncomputable def n72_24 : Code := cl n72_23
noncomputable def q72_24 : List Oper := opsOf n72_24
noncomputable def n72_25 : Code := cr n72_23
noncomputable def n72_26 : Code := cl n72_25
noncomputable def n72_27 : Code := cl n72_26
noncomputable def n72_28 : Code := cl n72_27
noncomputable def q72_28 : List Oper := opsOf n72_28
noncomputable def n72_29 : Code := cr n72_27
noncomputable def n72_30 : Code := cl n72_29
noncomputable def n72_31 : Code := cl n72_30
noncomputable def n72_32 : Code := cr n72_30
noncomputable def n72_33 : Code := cr n72_29
noncomputable def n72_34 : Code := cl n72_33
noncomputable def n72_35 : Code := cl n72_34
noncomputable def n72_36 : Code := cl n72_35
noncomputable def q72_36 : List Oper := opsOf n72_36
noncomputable def n72_37 : Code := cr n72_35
noncomputable def n72_38 : Code := cl n72_37
noncomputable def n72_39 : Code := cl n72_38
noncomputable def n72_40 : Code := cl n72_39
noncomputable def q72_40 : List Oper := opsOf n72_40
noncomputable def n72_41 : Code := cr n72_39
noncomputable def n72_42 : Code := cl n72_41
noncomputable def n72_43 : Code := cl n72_42
noncomputable def q72_43 : List Oper := opsOf n72_43
noncomputable def n72_44 : Code := cr n72_42
noncomputable def n72_45 : Code := cr n72_41
noncomputable def n72_46 : Code := cl n72_45
noncomputable def q72_46 : List Oper := opsOf n72_46
noncomputable def n72_47 : Code := cr n72_45
noncomputable def n72_48 : Code := cl n72_47
noncomputable def n72_49 : Code := cl n72_48
noncomputable def q72_49 : List Oper := opsOf n72_49
noncomputable def n72_50 : Code := cr n72_48
noncomputable def n72_51 : Code := cr n72_47
noncomputable def n72_52 : Code := cr n72_37
noncomputable def q72_52 : List Oper := opsOf n72_52
noncomputable def n72_53 : Code := cr n72_33
noncomputable def q72_53 : List Oper := opsOf n72_53
noncomputable def n72_54 : Code := cr n72_22
noncomputable def n72_55 : Code := cl n72_54
noncomputable def q72_55 : List Oper := opsOf n72_55
noncomputable def n72_56 : Code := cr n72_54
theorem body72 : Try.f72.body = some n72_0 := by kernel_rfl
theorem run72 (E : Ev) (args : List Value) (h : List Blk) (hl : args.length ≤ 41) : runB Try.prog E 72 args h = endS Try.prog [.cell 4 115, .tmp 5] h.length (codeB Try.prog E ⟨72, 41, h.length, none⟩ n72_0 ⟨enumT 0 args, h, []⟩) := GE.run_step Try.func72 body72 (by kernel_rfl) (by decide) (by kernel_rfl) hl
theorem n72_1s : codeB Try.prog E ⟨f, 41, b, ro⟩ n72_1 st = plainS (runOps Try.prog E b q72_1 (ops [false] Try.f72) st) := GE.region_step (id := 0) (GE.reg_of (by kernel_rfl)) (by kernel_rfl)
theorem n72_4s : codeB Try.prog E ⟨f, 41, b, ro⟩ n72_4 st = plainS (runOps Try.prog E b q72_4 (ops [true, false, false] Try.f72) st) := GE.region_step (id := 1) (GE.reg_of (by kernel_rfl)) (by kernel_rfl)
theorem n72_6s : codeB Try.prog E ⟨f, 41, b, ro⟩ n72_6 st = plainS (runOps Try.prog E b q72_6 (ops [true, false, true, false] Try.f72) st) := GE.region_step (id := 2) (GE.reg_of (by kernel_rfl)) (by kernel_rfl)
theorem n72_9s : codeB Try.prog E ⟨f, 41, b, ro⟩ n72_9 st = plainS (runOps Try.prog E b q72_9 (ops [true, false, true, true, false, false] Try.f72) st) := GE.region_step (id := 3) (GE.reg_of (by kernel_rfl)) (by kernel_rfl)
theorem n72_10s : codeB Try.prog LL ⟨72, 41, b, ro⟩ n72_10 st = normS b ⟨[4, 5], [⟨4, 2, 3, true⟩, ⟨4, 3, 1, true⟩]⟩ .ret st := GE.ret_step (by kernel_rfl) (by kernel_rfl)
theorem n72_8s : codeB Try.prog E cx n72_8 st = thenS (codeB Try.prog E cx n72_9 st) (codeB Try.prog E cx n72_10) := GE.seq_step (by kernel_rfl)
theorem n72_11s : codeB Try.prog E cx n72_11 st = some (.normal, st) := GE.skip_step (by kernel_rfl)
theorem n72_7s : codeB Try.prog E cx n72_7 st = condS (codeB Try.prog E cx n72_8) (codeB Try.prog E cx n72_11) (lk st.σ 13) st := GE.cond_step (c := .tmp 13) (by kernel_rfl)
theorem n72_5s : codeB Try.prog E cx n72_5 st = thenS (codeB Try.prog E cx n72_6 st) (codeB Try.prog E cx n72_7) := GE.seq_step (by kernel_rfl)
theorem n72_3s : codeB Try.prog E cx n72_3 st = thenS (codeB Try.prog E cx n72_4 st) (codeB Try.prog E cx n72_5) := GE.seq_step (by kernel_rfl)
theorem n72_14s : codeB Try.prog E ⟨f, 41, b, ro⟩ n72_14 st = plainS (runOps Try.prog E b q72_14 (ops [true, true, false, false] Try.f72) st) := GE.region_step (id := 4) (GE.reg_of (by kernel_rfl)) (by kernel_rfl)
theorem n72_17s : codeB Try.prog E ⟨f, 41, b, ro⟩ n72_17 st = plainS (runOps Try.prog E b q72_17 (ops [true, true, false, true, false, false] Try.f72) st) := GE.region_step (id := 5) (GE.reg_of (by kernel_rfl)) (by kernel_rfl)
theorem n72_18s : codeB Try.prog LL ⟨72, 41, b, ro⟩ n72_18 st = normS b ⟨[4, 5], [⟨4, 2, 3, true⟩, ⟨4, 3, 1, true⟩]⟩ .ret st := GE.ret_step (by kernel_rfl) (by kernel_rfl)
theorem n72_16s : codeB Try.prog E cx n72_16 st = thenS (codeB Try.prog E cx n72_17 st) (codeB Try.prog E cx n72_18) := GE.seq_step (by kernel_rfl)
theorem n72_19s : codeB Try.prog E cx n72_19 st = some (.normal, st) := GE.skip_step (by kernel_rfl)
theorem n72_15s : codeB Try.prog E cx n72_15 st = condS (codeB Try.prog E cx n72_16) (codeB Try.prog E cx n72_19) (lk st.σ 18) st := GE.cond_step (c := .tmp 18) (by kernel_rfl)
theorem n72_13s : codeB Try.prog E cx n72_13 st = thenS (codeB Try.prog E cx n72_14 st) (codeB Try.prog E cx n72_15) := GE.seq_step (by kernel_rfl)
theorem n72_21s : codeB Try.prog E ⟨f, 41, b, ro⟩ n72_21 st = plainS (runOps Try.prog E b q72_21 (ops [true, true, true, false] Try.f72) st) := GE.region_step (id := 6) (GE.reg_of (by kernel_rfl)) (by kernel_rfl)
theorem n72_24s : codeB Try.prog E ⟨f, 41, b, ro⟩ n72_24 st = plainS (runOps Try.prog E b q72_24 (ops [true, true, true, true, false, false] Try.f72) st) := GE.region_step (id := 7) (GE.reg_of (by kernel_rfl)) (by kernel_rfl)
theorem n72_28s : codeB Try.prog E ⟨f, 41, b, ro⟩ n72_28 st = plainS (runOps Try.prog E b q72_28 (ops [true, true, true, true, false, true, false, false, false] Try.f72) st) := GE.region_step (id := 8) (GE.reg_of (by kernel_rfl)) (by kernel_rfl)
theorem n72_31s : codeB Try.prog E cx n72_31 st = some (.normal, st) := GE.skip_step (by kernel_rfl)
theorem n72_32s : codeB Try.prog LL ⟨72, 41, b, ro⟩ n72_32 st = normS b ⟨[1, 2, 4], [⟨1, 0, 1, true⟩, ⟨2, 2, 3, true⟩, ⟨4, 2, 3, true⟩, ⟨4, 3, 1, true⟩]⟩ (.exit 0) st := GE.exit_step (by kernel_rfl) (by kernel_rfl)
theorem n72_30s : codeB Try.prog E cx n72_30 st = condS (codeB Try.prog E cx n72_31) (codeB Try.prog E cx n72_32) (lk st.σ 23) st := GE.cond_step (c := .tmp 23) (by kernel_rfl)
theorem n72_36s : codeB Try.prog E ⟨f, 41, b, ro⟩ n72_36 st = plainS (runOps Try.prog E b q72_36 (ops [true, true, true, true, false, true, false, false, true, true, false, false, false] Try.f72) st) := GE.region_step (id := 9) (GE.reg_of (by kernel_rfl)) (by kernel_rfl)
theorem n72_40s : codeB Try.prog E ⟨f, 41, b, ro⟩ n72_40 st = plainS (runOps Try.prog E b q72_40 (ops [true, true, true, true, false, true, false, false, true, true, false, false, true, false, false, false] Try.f72) st) := GE.region_step (id := 10) (GE.reg_of (by kernel_rfl)) (by kernel_rfl)
theorem n72_43s : codeB Try.prog E ⟨f, 41, b, ro⟩ n72_43 st = plainS (runOps Try.prog E b q72_43 (ops [true, true, true, true, false, true, false, false, true, true, false, false, true, false, false, true, false, false] Try.f72) st) := GE.region_step (id := 11) (GE.reg_of (by kernel_rfl)) (by kernel_rfl)
theorem n72_44s : codeB Try.prog LL ⟨72, 41, b, ro⟩ n72_44 st = normS b ⟨[4, 5], [⟨4, 2, 3, true⟩, ⟨4, 3, 1, true⟩]⟩ .ret st := GE.ret_step (by kernel_rfl) (by kernel_rfl)
theorem n72_42s : codeB Try.prog E cx n72_42 st = thenS (codeB Try.prog E cx n72_43 st) (codeB Try.prog E cx n72_44) := GE.seq_step (by kernel_rfl)
theorem n72_46s : codeB Try.prog E ⟨f, 41, b, ro⟩ n72_46 st = plainS (runOps Try.prog E b q72_46 (ops [true, true, true, true, false, true, false, false, true, true, false, false, true, false, false, true, true, false] Try.f72) st) := GE.region_step (id := 12) (GE.reg_of (by kernel_rfl)) (by kernel_rfl)
theorem n72_49s : codeB Try.prog E ⟨f, 41, b, ro⟩ n72_49 st = plainS (runOps Try.prog E b q72_49 (ops [true, true, true, true, false, true, false, false, true, true, false, false, true, false, false, true, true, true, false, false] Try.f72) st) := GE.region_step (id := 13) (GE.reg_of (by kernel_rfl)) (by kernel_rfl)
theorem n72_50s : codeB Try.prog LL ⟨72, 41, b, ro⟩ n72_50 st = normS b ⟨[4, 5], [⟨4, 2, 3, true⟩, ⟨4, 3, 1, true⟩]⟩ .ret st := GE.ret_step (by kernel_rfl) (by kernel_rfl)
theorem n72_48s : codeB Try.prog E cx n72_48 st = thenS (codeB Try.prog E cx n72_49 st) (codeB Try.prog E cx n72_50) := GE.seq_step (by kernel_rfl)
theorem n72_51s : codeB Try.prog E cx n72_51 st = some (.normal, st) := GE.skip_step (by kernel_rfl)
theorem n72_47s : codeB Try.prog E cx n72_47 st = condS (codeB Try.prog E cx n72_48) (codeB Try.prog E cx n72_51) (lk st.σ 31) st := GE.cond_step (c := .tmp 31) (by kernel_rfl)
theorem n72_45s : codeB Try.prog E cx n72_45 st = thenS (codeB Try.prog E cx n72_46 st) (codeB Try.prog E cx n72_47) := GE.seq_step (by kernel_rfl)
theorem n72_41s : codeB Try.prog E cx n72_41 st = condS (codeB Try.prog E cx n72_42) (codeB Try.prog E cx n72_45) (lk st.σ 26) st := GE.cond_step (c := .tmp 26) (by kernel_rfl)
theorem n72_39s : codeB Try.prog E cx n72_39 st = thenS (codeB Try.prog E cx n72_40 st) (codeB Try.prog E cx n72_41) := GE.seq_step (by kernel_rfl)
theorem n72_38s : codeB Try.prog E cx n72_38 st = blockS 2 (codeB Try.prog E cx n72_39 st) st := GE.block_step (by kernel_rfl)
theorem n72_52s : codeB Try.prog E ⟨f, 41, b, ro⟩ n72_52 st = plainS (runOps Try.prog E b q72_52 (ops [true, true, true, true, false, true, false, false, true, true, false, false, true, true] Try.f72) st) := GE.region_step (id := 14) (GE.reg_of (by kernel_rfl)) (by kernel_rfl)
theorem n72_37s : codeB Try.prog E cx n72_37 st = thenS (codeB Try.prog E cx n72_38 st) (codeB Try.prog E cx n72_52) := GE.seq_step (by kernel_rfl)
theorem n72_35s : codeB Try.prog E cx n72_35 st = thenS (codeB Try.prog E cx n72_36 st) (codeB Try.prog E cx n72_37) := GE.seq_step (by kernel_rfl)
theorem n72_34s : codeB Try.prog E cx n72_34 st = blockS 1 (codeB Try.prog E cx n72_35 st) st := GE.block_step (by kernel_rfl)
theorem n72_53s : codeB Try.prog E ⟨f, 41, b, ro⟩ n72_53 st = plainS (runOps Try.prog E b q72_53 (ops [true, true, true, true, false, true, false, false, true, true, true] Try.f72) st) := GE.region_step (id := 15) (GE.reg_of (by kernel_rfl)) (by kernel_rfl)
theorem n72_33s : codeB Try.prog E cx n72_33 st = thenS (codeB Try.prog E cx n72_34 st) (codeB Try.prog E cx n72_53) := GE.seq_step (by kernel_rfl)
theorem n72_29s : codeB Try.prog E cx n72_29 st = thenS (codeB Try.prog E cx n72_30 st) (codeB Try.prog E cx n72_33) := GE.seq_step (by kernel_rfl)
theorem n72_27s : codeB Try.prog E cx n72_27 st = thenS (codeB Try.prog E cx n72_28 st) (codeB Try.prog E cx n72_29) := GE.seq_step (by kernel_rfl)
theorem n72_26k : LL.kp (⟨72, 41, b, ro⟩ : Cx).fn (4 * rid n72_27 + 3) = some ⟨[1, 2, 4, 7, 20, 21, 22], [⟨1, 0, 1, true⟩, ⟨2, 2, 3, true⟩, ⟨4, 2, 3, true⟩, ⟨4, 3, 1, true⟩, ⟨20, 0, 1, true⟩]⟩ := by kernel_rfl
theorem n72_26s : codeB Try.prog LL ⟨72, 41, b, ro⟩ n72_26 st = headS b ⟨[1, 2, 4, 7, 20, 21, 22], [⟨1, 0, 1, true⟩, ⟨2, 2, 3, true⟩, ⟨4, 2, 3, true⟩, ⟨4, 3, 1, true⟩, ⟨20, 0, 1, true⟩]⟩ st (lpB Try.prog LL ⟨72, 41, b, ro⟩ n72_26 n72_27) := GE.lpB_step (by kernel_rfl) (n72_26k b ro)
theorem n72_26g : LL.code ⟨72, 41, b, ro⟩ n72_26 st = headS b ⟨[1, 2, 4, 7, 20, 21, 22], [⟨1, 0, 1, true⟩, ⟨2, 2, 3, true⟩, ⟨4, 2, 3, true⟩, ⟨4, 3, 1, true⟩, ⟨20, 0, 1, true⟩]⟩ st (lpB Try.prog LL ⟨72, 41, b, ro⟩ n72_26 n72_27) := GE.lpB_again (by kernel_rfl) (n72_26k b ro)
theorem n72_25s : codeB Try.prog E cx n72_25 st = blockS 0 (codeB Try.prog E cx n72_26 st) st := GE.block_step (by kernel_rfl)
theorem n72_23s : codeB Try.prog E cx n72_23 st = thenS (codeB Try.prog E cx n72_24 st) (codeB Try.prog E cx n72_25) := GE.seq_step (by kernel_rfl)
theorem n72_55s : codeB Try.prog E ⟨f, 41, b, ro⟩ n72_55 st = plainS (runOps Try.prog E b q72_55 (ops [true, true, true, true, true, false] Try.f72) st) := GE.region_step (id := 16) (GE.reg_of (by kernel_rfl)) (by kernel_rfl)
theorem n72_56s : codeB Try.prog LL ⟨72, 41, b, ro⟩ n72_56 st = normS b ⟨[4, 5], [⟨4, 2, 3, true⟩, ⟨4, 3, 1, true⟩]⟩ .ret st := GE.ret_step (by kernel_rfl) (by kernel_rfl)
theorem n72_54s : codeB Try.prog E cx n72_54 st = thenS (codeB Try.prog E cx n72_55 st) (codeB Try.prog E cx n72_56) := GE.seq_step (by kernel_rfl)
theorem n72_22s : codeB Try.prog E cx n72_22 st = thenS (codeB Try.prog E cx n72_23 st) (codeB Try.prog E cx n72_54) := GE.seq_step (by kernel_rfl)
theorem n72_20s : codeB Try.prog E cx n72_20 st = thenS (codeB Try.prog E cx n72_21 st) (codeB Try.prog E cx n72_22) := GE.seq_step (by kernel_rfl)
theorem n72_12s : codeB Try.prog E cx n72_12 st = thenS (codeB Try.prog E cx n72_13 st) (codeB Try.prog E cx n72_20) := GE.seq_step (by kernel_rfl)
theorem n72_2s : codeB Try.prog E cx n72_2 st = thenS (codeB Try.prog E cx n72_3 st) (codeB Try.prog E cx n72_12) := GE.seq_step (by kernel_rfl)
theorem n72_0s : codeB Try.prog E cx n72_0 st = thenS (codeB Try.prog E cx n72_1 st) (codeB Try.prog E cx n72_2) := GE.seq_step (by kernel_rfl)
noncomputable def n73_0 : Code := bodyOf Try.f73
noncomputable def n73_1 : Code := cl n73_0
noncomputable def q73_1 : List Oper := opsOf n73_1
noncomputable def n73_2 : Code := cr n73_0
noncomputable def n73_3 : Code := cl n73_2
noncomputable def n73_4 : Code := cl n73_3
noncomputable def q73_4 : List Oper := opsOf n73_4
noncomputable def n73_5 : Code := cr n73_3
noncomputable def n73_6 : Code := cl n73_5
noncomputable def n73_7 : Code := cl n73_6
noncomputable def n73_8 : Code := cl n73_7
noncomputable def q73_8 : List Oper := opsOf n73_8
noncomputable def n73_9 : Code := cr n73_7
noncomputable def n73_10 : Code := cl n73_9
noncomputable def n73_11 : Code := cl n73_10
noncomputable def n73_12 : Code := cr n73_10
noncomputable def n73_13 : Code := cr n73_9
noncomputable def n73_14 : Code := cl n73_13
noncomputable def n73_15 : Code := cl n73_14
noncomputable def n73_16 : Code := cl n73_15
noncomputable def q73_16 : List Oper := opsOf n73_16
noncomputable def n73_17 : Code := cr n73_15
noncomputable def n73_18 : Code := cl n73_17
noncomputable def q73_18 : List Oper := opsOf n73_18
noncomputable def n73_19 : Code := cr n73_17
noncomputable def n73_20 : Code := cl n73_19
noncomputable def n73_21 : Code := cl n73_20
noncomputable def n73_22 : Code := cl n73_21
noncomputable def q73_22 : List Oper := opsOf n73_22
noncomputable def n73_23 : Code := cr n73_21
noncomputable def q73_23 : List Oper := opsOf n73_23
noncomputable def n73_24 : Code := cr n73_20
noncomputable def n73_25 : Code := cl n73_24
noncomputable def n73_26 : Code := cl n73_25
noncomputable def q73_26 : List Oper := opsOf n73_26
noncomputable def n73_27 : Code := cr n73_25
noncomputable def n73_28 : Code := cl n73_27
noncomputable def n73_29 : Code := cl n73_28
noncomputable def q73_29 : List Oper := opsOf n73_29
noncomputable def n73_30 : Code := cr n73_28
noncomputable def n73_31 : Code := cr n73_27
noncomputable def n73_32 : Code := cr n73_13
noncomputable def q73_32 : List Oper := opsOf n73_32
noncomputable def n73_33 : Code := cr n73_2
noncomputable def n73_34 : Code := cl n73_33
noncomputable def q73_34 : List Oper := opsOf n73_34
noncomputable def n73_35 : Code := cr n73_33
theorem body73 : Try.f73.body = some n73_0 := by kernel_rfl
theorem run73 (E : Ev) (args : List Value) (h : List Blk) (hl : args.length ≤ 47) : runB Try.prog E 73 args h = endS Try.prog [.cell 4 4] h.length (codeB Try.prog E ⟨73, 47, h.length, none⟩ n73_0 ⟨enumT 0 args, h, []⟩) := GE.run_step Try.func73 body73 (by kernel_rfl) (by decide) (by kernel_rfl) hl
theorem n73_1s : codeB Try.prog E ⟨f, 47, b, ro⟩ n73_1 st = plainS (runOps Try.prog E b q73_1 (ops [false] Try.f73) st) := GE.region_step (id := 0) (GE.reg_of (by kernel_rfl)) (by kernel_rfl)
theorem n73_4s : codeB Try.prog E ⟨f, 47, b, ro⟩ n73_4 st = plainS (runOps Try.prog E b q73_4 (ops [true, false, false] Try.f73) st) := GE.region_step (id := 1) (GE.reg_of (by kernel_rfl)) (by kernel_rfl)
theorem n73_8s : codeB Try.prog E ⟨f, 47, b, ro⟩ n73_8 st = plainS (runOps Try.prog E b q73_8 (ops [true, false, true, false, false, false] Try.f73) st) := GE.region_step (id := 2) (GE.reg_of (by kernel_rfl)) (by kernel_rfl)
theorem n73_11s : codeB Try.prog E cx n73_11 st = some (.normal, st) := GE.skip_step (by kernel_rfl)
theorem n73_12s : codeB Try.prog LL ⟨73, 47, b, ro⟩ n73_12 st = normS b ⟨[4], []⟩ (.exit 0) st := GE.exit_step (by kernel_rfl) (by kernel_rfl)
theorem n73_10s : codeB Try.prog E cx n73_10 st = condS (codeB Try.prog E cx n73_11) (codeB Try.prog E cx n73_12) (lk st.σ 14) st := GE.cond_step (c := .tmp 14) (by kernel_rfl)
theorem n73_16s : codeB Try.prog E ⟨f, 47, b, ro⟩ n73_16 st = plainS (runOps Try.prog E b q73_16 (ops [true, false, true, false, false, true, true, false, false, false] Try.f73) st) := GE.region_step (id := 3) (GE.reg_of (by kernel_rfl)) (by kernel_rfl)
theorem n73_18s : codeB Try.prog E ⟨f, 47, b, ro⟩ n73_18 st = drawS [0, 0, 0, 4, 14, 31] (runOpsF Try.prog E b q73_18 (ops [true, false, true, false, false, true, true, false, false, true, false] Try.f73) st) := GE.draw_step (id := 4) (GE.reg_of (by kernel_rfl)) (by kernel_rfl) (by kernel_rfl) (by kernel_rfl)
theorem n73_22s : codeB Try.prog E ⟨f, 47, b, ro⟩ n73_22 st = plainS (runOps Try.prog E b q73_22 (ops [true, false, true, false, false, true, true, false, false, true, true, false, false, false] Try.f73) st) := GE.region_step (id := 5) (GE.reg_of (by kernel_rfl)) (by kernel_rfl)
theorem n73_23s : codeB Try.prog E ⟨f, 47, b, ro⟩ n73_23 st = plainS (runOps Try.prog E b q73_23 (ops [true, false, true, false, false, true, true, false, false, true, true, false, false, true] Try.f73) st) := GE.region_step (id := 6) (GE.reg_of (by kernel_rfl)) (by kernel_rfl)
theorem n73_21s : codeB Try.prog E cx n73_21 st = thenS (codeB Try.prog E cx n73_22 st) (codeB Try.prog E cx n73_23) := GE.seq_step (by kernel_rfl)
theorem q73_26g3 : gd q73_26 3 = some 29 := by kernel_rfl
theorem q73_26g8 : gd q73_26 8 = some 34 := by kernel_rfl
theorem q73_26g13 : gd q73_26 13 = some 39 := by kernel_rfl
theorem n73_26s : codeB Try.prog E ⟨f, 47, b, ro⟩ n73_26 st = plainS (runOps Try.prog E b q73_26 (ops [true, false, true, false, false, true, true, false, false, true, true, false, true, false, false] Try.f73) st) := GE.region_step (id := 7) (GE.reg_of (by kernel_rfl)) (by kernel_rfl)
theorem n73_29s : codeB Try.prog E ⟨f, 47, b, ro⟩ n73_29 st = plainS (runOps Try.prog E b q73_29 (ops [true, false, true, false, false, true, true, false, false, true, true, false, true, false, true, false, false] Try.f73) st) := GE.region_step (id := 8) (GE.reg_of (by kernel_rfl)) (by kernel_rfl)
theorem n73_30s : codeB Try.prog LL ⟨73, 47, b, ro⟩ n73_30 st = normS b ⟨[4], []⟩ .ret st := GE.ret_step (by kernel_rfl) (by kernel_rfl)
theorem n73_28s : codeB Try.prog E cx n73_28 st = thenS (codeB Try.prog E cx n73_29 st) (codeB Try.prog E cx n73_30) := GE.seq_step (by kernel_rfl)
theorem n73_31s : codeB Try.prog E cx n73_31 st = some (.normal, st) := GE.skip_step (by kernel_rfl)
theorem n73_27s : codeB Try.prog E cx n73_27 st = condS (codeB Try.prog E cx n73_28) (codeB Try.prog E cx n73_31) (lk st.σ 45) st := GE.cond_step (c := .tmp 45) (by kernel_rfl)
theorem n73_25s : codeB Try.prog E cx n73_25 st = thenS (codeB Try.prog E cx n73_26 st) (codeB Try.prog E cx n73_27) := GE.seq_step (by kernel_rfl)
theorem n73_24s : codeB Try.prog E cx n73_24 st = blockS 3 (codeB Try.prog E cx n73_25 st) st := GE.block_step (by kernel_rfl)
theorem n73_20e : n73_20 = .rangeFunc (.tmp 23) #[24, 25] n73_21 n73_24 := by kernel_rfl
theorem n73_20k : (ue n73_21).1 ++ (ue n73_24).1 = [24, 25, 7, 5, 3, 2, 8, 6, 4] := by kernel_rfl
theorem n73_19s : codeB Try.prog E cx n73_19 st = blockS 2 (codeB Try.prog E cx n73_20 st) st := GE.block_step (by kernel_rfl)
theorem n73_17s : codeB Try.prog E cx n73_17 st = thenS (codeB Try.prog E cx n73_18 st) (codeB Try.prog E cx n73_19) := GE.seq_step (by kernel_rfl)
theorem n73_15s : codeB Try.prog E cx n73_15 st = thenS (codeB Try.prog E cx n73_16 st) (codeB Try.prog E cx n73_17) := GE.seq_step (by kernel_rfl)
theorem n73_14s : codeB Try.prog E cx n73_14 st = blockS 1 (codeB Try.prog E cx n73_15 st) st := GE.block_step (by kernel_rfl)
theorem n73_32s : codeB Try.prog E ⟨f, 47, b, ro⟩ n73_32 st = plainS (runOps Try.prog E b q73_32 (ops [true, false, true, false, false, true, true, true] Try.f73) st) := GE.region_step (id := 9) (GE.reg_of (by kernel_rfl)) (by kernel_rfl)
theorem n73_13s : codeB Try.prog E cx n73_13 st = thenS (codeB Try.prog E cx n73_14 st) (codeB Try.prog E cx n73_32) := GE.seq_step (by kernel_rfl)
theorem n73_9s : codeB Try.prog E cx n73_9 st = thenS (codeB Try.prog E cx n73_10 st) (codeB Try.prog E cx n73_13) := GE.seq_step (by kernel_rfl)
theorem n73_7s : codeB Try.prog E cx n73_7 st = thenS (codeB Try.prog E cx n73_8 st) (codeB Try.prog E cx n73_9) := GE.seq_step (by kernel_rfl)
theorem n73_6k : LL.kp (⟨73, 47, b, ro⟩ : Cx).fn (4 * rid n73_7 + 3) = some ⟨[2, 3, 4, 7, 8, 11, 12, 13, 24, 25], [⟨2, 2, 3, true⟩, ⟨2, 3, 1, true⟩, ⟨11, 0, 3, true⟩]⟩ := by kernel_rfl
theorem n73_6s : codeB Try.prog LL ⟨73, 47, b, ro⟩ n73_6 st = headS b ⟨[2, 3, 4, 7, 8, 11, 12, 13, 24, 25], [⟨2, 2, 3, true⟩, ⟨2, 3, 1, true⟩, ⟨11, 0, 3, true⟩]⟩ st (lpB Try.prog LL ⟨73, 47, b, ro⟩ n73_6 n73_7) := GE.lpB_step (by kernel_rfl) (n73_6k b ro)
theorem n73_6g : LL.code ⟨73, 47, b, ro⟩ n73_6 st = headS b ⟨[2, 3, 4, 7, 8, 11, 12, 13, 24, 25], [⟨2, 2, 3, true⟩, ⟨2, 3, 1, true⟩, ⟨11, 0, 3, true⟩]⟩ st (lpB Try.prog LL ⟨73, 47, b, ro⟩ n73_6 n73_7) := GE.lpB_again (by kernel_rfl) (n73_6k b ro)
theorem n73_5s : codeB Try.prog E cx n73_5 st = blockS 0 (codeB Try.prog E cx n73_6 st) st := GE.block_step (by kernel_rfl)
theorem n73_3s : codeB Try.prog E cx n73_3 st = thenS (codeB Try.prog E cx n73_4 st) (codeB Try.prog E cx n73_5) := GE.seq_step (by kernel_rfl)
theorem n73_34s : codeB Try.prog E ⟨f, 47, b, ro⟩ n73_34 st = plainS (runOps Try.prog E b q73_34 (ops [true, true, false] Try.f73) st) := GE.region_step (id := 10) (GE.reg_of (by kernel_rfl)) (by kernel_rfl)
theorem n73_35s : codeB Try.prog LL ⟨73, 47, b, ro⟩ n73_35 st = normS b ⟨[4], []⟩ .ret st := GE.ret_step (by kernel_rfl) (by kernel_rfl)
theorem n73_33s : codeB Try.prog E cx n73_33 st = thenS (codeB Try.prog E cx n73_34 st) (codeB Try.prog E cx n73_35) := GE.seq_step (by kernel_rfl)
theorem n73_2s : codeB Try.prog E cx n73_2 st = thenS (codeB Try.prog E cx n73_3 st) (codeB Try.prog E cx n73_33) := GE.seq_step (by kernel_rfl)
theorem n73_0s : codeB Try.prog E cx n73_0 st = thenS (codeB Try.prog E cx n73_1 st) (codeB Try.prog E cx n73_2) := GE.seq_step (by kernel_rfl)
noncomputable def n82_0 : Code := bodyOf Try.f82
noncomputable def n82_1 : Code := cl n82_0
noncomputable def q82_1 : List Oper := opsOf n82_1
noncomputable def n82_2 : Code := cr n82_0
noncomputable def n82_3 : Code := cl n82_2
noncomputable def n82_4 : Code := cl n82_3
noncomputable def q82_4 : List Oper := opsOf n82_4
noncomputable def n82_5 : Code := cr n82_3
noncomputable def n82_6 : Code := cl n82_5
noncomputable def n82_7 : Code := cl n82_6
noncomputable def n82_8 : Code := cl n82_7
noncomputable def q82_8 : List Oper := opsOf n82_8
noncomputable def n82_9 : Code := cr n82_7
noncomputable def n82_10 : Code := cl n82_9
noncomputable def n82_11 : Code := cl n82_10
noncomputable def n82_12 : Code := cr n82_10
noncomputable def n82_13 : Code := cr n82_9
noncomputable def n82_14 : Code := cl n82_13
noncomputable def n82_15 : Code := cl n82_14
noncomputable def n82_16 : Code := cl n82_15
noncomputable def q82_16 : List Oper := opsOf n82_16
noncomputable def n82_17 : Code := cr n82_15
noncomputable def n82_18 : Code := cl n82_17
noncomputable def q82_18 : List Oper := opsOf n82_18
noncomputable def n82_19 : Code := cr n82_17
noncomputable def n82_20 : Code := cl n82_19
noncomputable def n82_21 : Code := cl n82_20
noncomputable def q82_21 : List Oper := opsOf n82_21
noncomputable def n82_22 : Code := cr n82_20
noncomputable def n82_23 : Code := cr n82_19
noncomputable def n82_24 : Code := cr n82_13
noncomputable def q82_24 : List Oper := opsOf n82_24
noncomputable def n82_25 : Code := cr n82_2
noncomputable def n82_26 : Code := cl n82_25
noncomputable def q82_26 : List Oper := opsOf n82_26
noncomputable def n82_27 : Code := cr n82_25
theorem body82 : Try.f82.body = some n82_0 := by kernel_rfl
theorem run82 (E : Ev) (args : List Value) (h : List Blk) (hl : args.length ≤ 19) : runB Try.prog E 82 args h = endS Try.prog [.tmp 4] h.length (codeB Try.prog E ⟨82, 19, h.length, none⟩ n82_0 ⟨enumT 0 args, h, []⟩) := GE.run_step Try.func82 body82 (by kernel_rfl) (by decide) (by kernel_rfl) hl
theorem n82_1s : codeB Try.prog E ⟨f, 19, b, ro⟩ n82_1 st = plainS (runOps Try.prog E b q82_1 (ops [false] Try.f82) st) := GE.region_step (id := 0) (GE.reg_of (by kernel_rfl)) (by kernel_rfl)
theorem n82_4s : codeB Try.prog E ⟨f, 19, b, ro⟩ n82_4 st = plainS (runOps Try.prog E b q82_4 (ops [true, false, false] Try.f82) st) := GE.region_step (id := 1) (GE.reg_of (by kernel_rfl)) (by kernel_rfl)
theorem n82_8s : codeB Try.prog E ⟨f, 19, b, ro⟩ n82_8 st = plainS (runOps Try.prog E b q82_8 (ops [true, false, true, false, false, false] Try.f82) st) := GE.region_step (id := 2) (GE.reg_of (by kernel_rfl)) (by kernel_rfl)
theorem n82_11s : codeB Try.prog E cx n82_11 st = some (.normal, st) := GE.skip_step (by kernel_rfl)
theorem n82_12s : codeB Try.prog LL ⟨82, 19, b, ro⟩ n82_12 st = normS b ⟨[], []⟩ (.exit 0) st := GE.exit_step (by kernel_rfl) (by kernel_rfl)
theorem n82_10s : codeB Try.prog E cx n82_10 st = condS (codeB Try.prog E cx n82_11) (codeB Try.prog E cx n82_12) (lk st.σ 9) st := GE.cond_step (c := .tmp 9) (by kernel_rfl)
theorem n82_16s : codeB Try.prog E ⟨f, 19, b, ro⟩ n82_16 st = plainS (runOps Try.prog E b q82_16 (ops [true, false, true, false, false, true, true, false, false, false] Try.f82) st) := GE.region_step (id := 3) (GE.reg_of (by kernel_rfl)) (by kernel_rfl)
theorem n82_18s : codeB Try.prog E ⟨f, 19, b, ro⟩ n82_18 st = plainS (runOps Try.prog E b q82_18 (ops [true, false, true, false, false, true, true, false, false, true, false] Try.f82) st) := GE.region_step (id := 4) (GE.reg_of (by kernel_rfl)) (by kernel_rfl)
theorem n82_21s : codeB Try.prog E ⟨f, 19, b, ro⟩ n82_21 st = plainS (runOps Try.prog E b q82_21 (ops [true, false, true, false, false, true, true, false, false, true, true, false, false] Try.f82) st) := GE.region_step (id := 5) (GE.reg_of (by kernel_rfl)) (by kernel_rfl)
theorem n82_22s : codeB Try.prog LL ⟨82, 19, b, ro⟩ n82_22 st = normS b ⟨[4], []⟩ .ret st := GE.ret_step (by kernel_rfl) (by kernel_rfl)
theorem n82_20s : codeB Try.prog E cx n82_20 st = thenS (codeB Try.prog E cx n82_21 st) (codeB Try.prog E cx n82_22) := GE.seq_step (by kernel_rfl)
theorem n82_23s : codeB Try.prog E cx n82_23 st = some (.normal, st) := GE.skip_step (by kernel_rfl)
theorem n82_19s : codeB Try.prog E cx n82_19 st = condS (codeB Try.prog E cx n82_20) (codeB Try.prog E cx n82_23) (lk st.σ 16) st := GE.cond_step (c := .tmp 16) (by kernel_rfl)
theorem n82_17s : codeB Try.prog E cx n82_17 st = thenS (codeB Try.prog E cx n82_18 st) (codeB Try.prog E cx n82_19) := GE.seq_step (by kernel_rfl)
theorem n82_15s : codeB Try.prog E cx n82_15 st = thenS (codeB Try.prog E cx n82_16 st) (codeB Try.prog E cx n82_17) := GE.seq_step (by kernel_rfl)
theorem n82_14s : codeB Try.prog E cx n82_14 st = blockS 1 (codeB Try.prog E cx n82_15 st) st := GE.block_step (by kernel_rfl)
theorem n82_24s : codeB Try.prog E ⟨f, 19, b, ro⟩ n82_24 st = plainS (runOps Try.prog E b q82_24 (ops [true, false, true, false, false, true, true, true] Try.f82) st) := GE.region_step (id := 6) (GE.reg_of (by kernel_rfl)) (by kernel_rfl)
theorem n82_13s : codeB Try.prog E cx n82_13 st = thenS (codeB Try.prog E cx n82_14 st) (codeB Try.prog E cx n82_24) := GE.seq_step (by kernel_rfl)
theorem n82_9s : codeB Try.prog E cx n82_9 st = thenS (codeB Try.prog E cx n82_10 st) (codeB Try.prog E cx n82_13) := GE.seq_step (by kernel_rfl)
theorem n82_7s : codeB Try.prog E cx n82_7 st = thenS (codeB Try.prog E cx n82_8 st) (codeB Try.prog E cx n82_9) := GE.seq_step (by kernel_rfl)
theorem n82_6k : LL.kp (⟨82, 19, b, ro⟩ : Cx).fn (4 * rid n82_7 + 3) = some ⟨[0, 1, 7, 8], [⟨0, 0, 3, true⟩]⟩ := by kernel_rfl
theorem n82_6s : codeB Try.prog LL ⟨82, 19, b, ro⟩ n82_6 st = headS b ⟨[0, 1, 7, 8], [⟨0, 0, 3, true⟩]⟩ st (lpB Try.prog LL ⟨82, 19, b, ro⟩ n82_6 n82_7) := GE.lpB_step (by kernel_rfl) (n82_6k b ro)
theorem n82_6g : LL.code ⟨82, 19, b, ro⟩ n82_6 st = headS b ⟨[0, 1, 7, 8], [⟨0, 0, 3, true⟩]⟩ st (lpB Try.prog LL ⟨82, 19, b, ro⟩ n82_6 n82_7) := GE.lpB_again (by kernel_rfl) (n82_6k b ro)
theorem n82_5s : codeB Try.prog E cx n82_5 st = blockS 0 (codeB Try.prog E cx n82_6 st) st := GE.block_step (by kernel_rfl)
theorem n82_3s : codeB Try.prog E cx n82_3 st = thenS (codeB Try.prog E cx n82_4 st) (codeB Try.prog E cx n82_5) := GE.seq_step (by kernel_rfl)
theorem n82_26s : codeB Try.prog E ⟨f, 19, b, ro⟩ n82_26 st = plainS (runOps Try.prog E b q82_26 (ops [true, true, false] Try.f82) st) := GE.region_step (id := 7) (GE.reg_of (by kernel_rfl)) (by kernel_rfl)
theorem n82_27s : codeB Try.prog LL ⟨82, 19, b, ro⟩ n82_27 st = normS b ⟨[4], []⟩ .ret st := GE.ret_step (by kernel_rfl) (by kernel_rfl)
theorem n82_25s : codeB Try.prog E cx n82_25 st = thenS (codeB Try.prog E cx n82_26 st) (codeB Try.prog E cx n82_27) := GE.seq_step (by kernel_rfl)
theorem n82_2s : codeB Try.prog E cx n82_2 st = thenS (codeB Try.prog E cx n82_3 st) (codeB Try.prog E cx n82_25) := GE.seq_step (by kernel_rfl)
theorem n82_0s : codeB Try.prog E cx n82_0 st = thenS (codeB Try.prog E cx n82_1 st) (codeB Try.prog E cx n82_2) := GE.seq_step (by kernel_rfl)
noncomputable def n83_0 : Code := bodyOf Try.f83
noncomputable def n83_1 : Code := cl n83_0
noncomputable def q83_1 : List Oper := opsOf n83_1
noncomputable def n83_2 : Code := cr n83_0
noncomputable def n83_3 : Code := cl n83_2
noncomputable def q83_3 : List Oper := opsOf n83_3
noncomputable def n83_4 : Code := cr n83_2
theorem body83 : Try.f83.body = some n83_0 := by kernel_rfl
theorem run83 (E : Ev) (args : List Value) (h : List Blk) (hl : args.length ≤ 13) : runB Try.prog E 83 args h = endS Try.prog [.tmp 4] h.length (codeB Try.prog E ⟨83, 13, h.length, none⟩ n83_0 ⟨enumT 0 args, h, []⟩) := GE.run_step Try.func83 body83 (by kernel_rfl) (by decide) (by kernel_rfl) hl
theorem n83_1s : codeB Try.prog E ⟨f, 13, b, ro⟩ n83_1 st = plainS (runOps Try.prog E b q83_1 (ops [false] Try.f83) st) := GE.region_step (id := 0) (GE.reg_of (by kernel_rfl)) (by kernel_rfl)
theorem n83_3s : codeB Try.prog E ⟨f, 13, b, ro⟩ n83_3 st = drawS [0, 0, 0, 4, 0, 28, 60, 127, 255] (runOpsF Try.prog E b q83_3 (ops [true, false] Try.f83) st) := GE.draw_step (id := 1) (GE.reg_of (by kernel_rfl)) (by kernel_rfl) (by kernel_rfl) (by kernel_rfl)
theorem n83_4s : codeB Try.prog LL ⟨83, 13, b, ro⟩ n83_4 st = normS b ⟨[4], []⟩ .ret st := GE.ret_step (by kernel_rfl) (by kernel_rfl)
theorem n83_2s : codeB Try.prog E cx n83_2 st = thenS (codeB Try.prog E cx n83_3 st) (codeB Try.prog E cx n83_4) := GE.seq_step (by kernel_rfl)
theorem n83_0s : codeB Try.prog E cx n83_0 st = thenS (codeB Try.prog E cx n83_1 st) (codeB Try.prog E cx n83_2) := GE.seq_step (by kernel_rfl)
noncomputable def n85_0 : Code := bodyOf Try.f85
noncomputable def n85_1 : Code := cl n85_0
noncomputable def q85_1 : List Oper := opsOf n85_1
noncomputable def n85_2 : Code := cr n85_0
noncomputable def n85_3 : Code := cl n85_2
noncomputable def n85_4 : Code := cl n85_3
noncomputable def q85_4 : List Oper := opsOf n85_4
noncomputable def n85_5 : Code := cr n85_3
noncomputable def n85_6 : Code := cl n85_5
noncomputable def q85_6 : List Oper := opsOf n85_6
noncomputable def n85_7 : Code := cr n85_5
noncomputable def n85_8 : Code := cl n85_7
noncomputable def n85_9 : Code := cl n85_8
noncomputable def q85_9 : List Oper := opsOf n85_9
noncomputable def n85_10 : Code := cr n85_8
noncomputable def n85_11 : Code := cr n85_7
noncomputable def n85_12 : Code := cr n85_2
noncomputable def n85_13 : Code := cl n85_12
noncomputable def q85_13 : List Oper := opsOf n85_13
noncomputable def n85_14 : Code := cr n85_12
noncomputable def n85_15 : Code := cl n85_14
noncomputable def q85_15 : List Oper := opsOf n85_15
noncomputable def n85_16 : Code := cr n85_14
theorem body85 : Try.f85.body = some n85_0 := by kernel_rfl
theorem run85 (E : Ev) (args : List Value) (h : List Blk) (hl : args.length ≤ 53) : runB Try.prog E 85 args h = endS Try.prog [.cell 6 57] h.length (codeB Try.prog E ⟨85, 53, h.length, none⟩ n85_0 ⟨enumT 0 args, h, []⟩) := GE.run_step Try.func85 body85 (by kernel_rfl) (by decide) (by kernel_rfl) hl
theorem n85_1s : codeB Try.prog E ⟨f, 53, b, ro⟩ n85_1 st = plainS (runOps Try.prog E b q85_1 (ops [false] Try.f85) st) := GE.region_step (id := 0) (GE.reg_of (by kernel_rfl)) (by kernel_rfl)
theorem n85_4s : codeB Try.prog E ⟨f, 53, b, ro⟩ n85_4 st = plainS (runOps Try.prog E b q85_4 (ops [true, false, false] Try.f85) st) := GE.region_step (id := 1) (GE.reg_of (by kernel_rfl)) (by kernel_rfl)
theorem n85_6s : codeB Try.prog E ⟨f, 53, b, ro⟩ n85_6 st = plainS (runOps Try.prog E b q85_6 (ops [true, false, true, false] Try.f85) st) := GE.region_step (id := 2) (GE.reg_of (by kernel_rfl)) (by kernel_rfl)
theorem n85_9s : codeB Try.prog E ⟨f, 53, b, ro⟩ n85_9 st = plainS (runOps Try.prog E b q85_9 (ops [true, false, true, true, false, false] Try.f85) st) := GE.region_step (id := 3) (GE.reg_of (by kernel_rfl)) (by kernel_rfl)
theorem n85_10s : codeB Try.prog LL ⟨85, 53, b, ro⟩ n85_10 st = normS b ⟨[6], []⟩ .ret st := GE.ret_step (by kernel_rfl) (by kernel_rfl)
theorem n85_8s : codeB Try.prog E cx n85_8 st = thenS (codeB Try.prog E cx n85_9 st) (codeB Try.prog E cx n85_10) := GE.seq_step (by kernel_rfl)
theorem n85_11s : codeB Try.prog E cx n85_11 st = some (.normal, st) := GE.skip_step (by kernel_rfl)
theorem n85_7s : codeB Try.prog E cx n85_7 st = condS (codeB Try.prog E cx n85_8) (codeB Try.prog E cx n85_11) (lk st.σ 14) st := GE.cond_step (c := .tmp 14) (by kernel_rfl)
theorem n85_5s : codeB Try.prog E cx n85_5 st = thenS (codeB Try.prog E cx n85_6 st) (codeB Try.prog E cx n85_7) := GE.seq_step (by kernel_rfl)
theorem n85_3s : codeB Try.prog E cx n85_3 st = thenS (codeB Try.prog E cx n85_4 st) (codeB Try.prog E cx n85_5) := GE.seq_step (by kernel_rfl)
theorem n85_13s : codeB Try.prog E ⟨f, 53, b, ro⟩ n85_13 st = plainS (runOps Try.prog E b q85_13 (ops [true, true, false] Try.f85) st) := GE.region_step (id := 4) (GE.reg_of (by kernel_rfl)) (by kernel_rfl)
theorem n85_15s : codeB Try.prog E ⟨f, 53, b, ro⟩ n85_15 st = plainS (runOps Try.prog E b q85_15 (ops [true, true, true, false] Try.f85) st) := GE.region_step (id := 5) (GE.reg_of (by kernel_rfl)) (by kernel_rfl)
theorem n85_16s : codeB Try.prog LL ⟨85, 53, b, ro⟩ n85_16 st = normS b ⟨[6], []⟩ .ret st := GE.ret_step (by kernel_rfl) (by kernel_rfl)
theorem n85_14s : codeB Try.prog E cx n85_14 st = thenS (codeB Try.prog E cx n85_15 st) (codeB Try.prog E cx n85_16) := GE.seq_step (by kernel_rfl)
theorem n85_12s : codeB Try.prog E cx n85_12 st = thenS (codeB Try.prog E cx n85_13 st) (codeB Try.prog E cx n85_14) := GE.seq_step (by kernel_rfl)
theorem n85_2s : codeB Try.prog E cx n85_2 st = thenS (codeB Try.prog E cx n85_3 st) (codeB Try.prog E cx n85_12) := GE.seq_step (by kernel_rfl)
theorem n85_0s : codeB Try.prog E cx n85_0 st = thenS (codeB Try.prog E cx n85_1 st) (codeB Try.prog E cx n85_2) := GE.seq_step (by kernel_rfl)
noncomputable def n86_0 : Code := bodyOf Try.f86
noncomputable def n86_1 : Code := cl n86_0
noncomputable def q86_1 : List Oper := opsOf n86_1
noncomputable def n86_2 : Code := cr n86_0
noncomputable def n86_3 : Code := cl n86_2
noncomputable def n86_4 : Code := cl n86_3
noncomputable def q86_4 : List Oper := opsOf n86_4
noncomputable def n86_5 : Code := cr n86_3
noncomputable def n86_6 : Code := cl n86_5
noncomputable def q86_6 : List Oper := opsOf n86_6
noncomputable def n86_7 : Code := cr n86_5
noncomputable def n86_8 : Code := cr n86_2
noncomputable def q86_8 : List Oper := opsOf n86_8
theorem body86 : Try.f86.body = some n86_0 := by kernel_rfl
theorem run86 (E : Ev) (args : List Value) (h : List Blk) (hl : args.length ≤ 32) : runB Try.prog E 86 args h = endS Try.prog [] h.length (codeB Try.prog E ⟨86, 32, h.length, none⟩ n86_0 ⟨enumT 0 args, h, []⟩) := GE.run_step Try.func86 body86 (by kernel_rfl) (by decide) (by kernel_rfl) hl
theorem n86_1s : codeB Try.prog E ⟨f, 32, b, ro⟩ n86_1 st = plainS (runOps Try.prog E b q86_1 (ops [false] Try.f86) st) := GE.region_step (id := 0) (GE.reg_of (by kernel_rfl)) (by kernel_rfl)
theorem n86_4s : codeB Try.prog E ⟨f, 32, b, ro⟩ n86_4 st = plainS (runOps Try.prog E b q86_4 (ops [true, false, false] Try.f86) st) := GE.region_step (id := 1) (GE.reg_of (by kernel_rfl)) (by kernel_rfl)
theorem n86_6s : codeB Try.prog E ⟨f, 32, b, ro⟩ n86_6 st = drawS [0, 1, 3, 7, 15, 0, 32, 127, 0, 256, 768, 1792, 3840, 0, 8192, 32512, 65535, 131071] (runOpsF Try.prog E b q86_6 (ops [true, false, true, false] Try.f86) st) := GE.draw_step (id := 2) (GE.reg_of (by kernel_rfl)) (by kernel_rfl) (by kernel_rfl) (by kernel_rfl)
theorem n86_7s : codeB Try.prog E cx n86_7 st = some (.normal, st) := GE.skip_step (by kernel_rfl)
theorem n86_5s : codeB Try.prog E cx n86_5 st = condS (codeB Try.prog E cx n86_6) (codeB Try.prog E cx n86_7) (lk st.σ 7) st := GE.cond_step (c := .tmp 7) (by kernel_rfl)
theorem n86_3s : codeB Try.prog E cx n86_3 st = thenS (codeB Try.prog E cx n86_4 st) (codeB Try.prog E cx n86_5) := GE.seq_step (by kernel_rfl)
theorem n86_8s : codeB Try.prog E ⟨f, 32, b, ro⟩ n86_8 st = plainS (runOps Try.prog E b q86_8 (ops [true, true] Try.f86) st) := GE.region_step (id := 3) (GE.reg_of (by kernel_rfl)) (by kernel_rfl)
theorem n86_2s : codeB Try.prog E cx n86_2 st = thenS (codeB Try.prog E cx n86_3 st) (codeB Try.prog E cx n86_8) := GE.seq_step (by kernel_rfl)
theorem n86_0s : codeB Try.prog E cx n86_0 st = thenS (codeB Try.prog E cx n86_1 st) (codeB Try.prog E cx n86_2) := GE.seq_step (by kernel_rfl)
noncomputable def n87_0 : Code := bodyOf Try.f87
noncomputable def n87_1 : Code := cl n87_0
noncomputable def q87_1 : List Oper := opsOf n87_1
noncomputable def n87_2 : Code := cr n87_0
noncomputable def n87_3 : Code := cl n87_2
noncomputable def q87_3 : List Oper := opsOf n87_3
noncomputable def n87_4 : Code := cr n87_2
theorem body87 : Try.f87.body = some n87_0 := by kernel_rfl
theorem run87 (E : Ev) (args : List Value) (h : List Blk) (hl : args.length ≤ 6) : runB Try.prog E 87 args h = endS Try.prog [.tmp 4] h.length (codeB Try.prog E ⟨87, 6, h.length, none⟩ n87_0 ⟨enumT 0 args, h, []⟩) := GE.run_step Try.func87 body87 (by kernel_rfl) (by decide) (by kernel_rfl) hl
theorem n87_1s : codeB Try.prog E ⟨f, 6, b, ro⟩ n87_1 st = plainS (runOps Try.prog E b q87_1 (ops [false] Try.f87) st) := GE.region_step (id := 0) (GE.reg_of (by kernel_rfl)) (by kernel_rfl)
theorem n87_3s : codeB Try.prog E ⟨f, 6, b, ro⟩ n87_3 st = plainS (runOps Try.prog E b q87_3 (ops [true, false] Try.f87) st) := GE.region_step (id := 1) (GE.reg_of (by kernel_rfl)) (by kernel_rfl)
theorem n87_4s : codeB Try.prog LL ⟨87, 6, b, ro⟩ n87_4 st = normS b ⟨[4], []⟩ .ret st := GE.ret_step (by kernel_rfl) (by kernel_rfl)
theorem n87_2s : codeB Try.prog E cx n87_2 st = thenS (codeB Try.prog E cx n87_3 st) (codeB Try.prog E cx n87_4) := GE.seq_step (by kernel_rfl)
theorem n87_0s : codeB Try.prog E cx n87_0 st = thenS (codeB Try.prog E cx n87_1 st) (codeB Try.prog E cx n87_2) := GE.seq_step (by kernel_rfl)
noncomputable def n88_0 : Code := bodyOf Try.f88
noncomputable def n88_1 : Code := cl n88_0
noncomputable def q88_1 : List Oper := opsOf n88_1
noncomputable def n88_2 : Code := cr n88_0
noncomputable def n88_3 : Code := cl n88_2
noncomputable def q88_3 : List Oper := opsOf n88_3
noncomputable def n88_4 : Code := cr n88_2
noncomputable def n88_5 : Code := cl n88_4
noncomputable def q88_5 : List Oper := opsOf n88_5
noncomputable def n88_6 : Code := cr n88_4
theorem body88 : Try.f88.body = some n88_0 := by kernel_rfl
theorem run88 (E : Ev) (args : List Value) (h : List Blk) (hl : args.length ≤ 15) : runB Try.prog E 88 args h = endS Try.prog [.tmp 4] h.length (codeB Try.prog E ⟨88, 15, h.length, none⟩ n88_0 ⟨enumT 0 args, h, []⟩) := GE.run_step Try.func88 body88 (by kernel_rfl) (by decide) (by kernel_rfl) hl
theorem n88_1s : codeB Try.prog E ⟨f, 15, b, ro⟩ n88_1 st = plainS (runOps Try.prog E b q88_1 (ops [false] Try.f88) st) := GE.region_step (id := 0) (GE.reg_of (by kernel_rfl)) (by kernel_rfl)
theorem n88_3s : codeB Try.prog E ⟨f, 15, b, ro⟩ n88_3 st = plainS (runOps Try.prog E b q88_3 (ops [true, false] Try.f88) st) := GE.region_step (id := 1) (GE.reg_of (by kernel_rfl)) (by kernel_rfl)
theorem n88_5s : codeB Try.prog E ⟨f, 15, b, ro⟩ n88_5 st = plainS (runOps Try.prog E b q88_5 (ops [true, true, false] Try.f88) st) := GE.region_step (id := 2) (GE.reg_of (by kernel_rfl)) (by kernel_rfl)
theorem n88_6s : codeB Try.prog LL ⟨88, 15, b, ro⟩ n88_6 st = normS b ⟨[4], []⟩ .ret st := GE.ret_step (by kernel_rfl) (by kernel_rfl)
theorem n88_4s : codeB Try.prog E cx n88_4 st = thenS (codeB Try.prog E cx n88_5 st) (codeB Try.prog E cx n88_6) := GE.seq_step (by kernel_rfl)
theorem n88_2s : codeB Try.prog E cx n88_2 st = thenS (codeB Try.prog E cx n88_3 st) (codeB Try.prog E cx n88_4) := GE.seq_step (by kernel_rfl)
theorem n88_0s : codeB Try.prog E cx n88_0 st = thenS (codeB Try.prog E cx n88_1 st) (codeB Try.prog E cx n88_2) := GE.seq_step (by kernel_rfl)
noncomputable def n103_0 : Code := bodyOf Try.f103
noncomputable def n103_1 : Code := cl n103_0
noncomputable def q103_1 : List Oper := opsOf n103_1
noncomputable def n103_2 : Code := cr n103_0
noncomputable def n103_3 : Code := cl n103_2
noncomputable def n103_4 : Code := cl n103_3
noncomputable def n103_5 : Code := cl n103_4
noncomputable def q103_5 : List Oper := opsOf n103_5
noncomputable def n103_6 : Code := cr n103_4
noncomputable def n103_7 : Code := cl n103_6
noncomputable def n103_8 : Code := cl n103_7
noncomputable def n103_9 : Code := cr n103_7
noncomputable def n103_10 : Code := cr n103_6
noncomputable def n103_11 : Code := cl n103_10
noncomputable def n103_12 : Code := cl n103_11
noncomputable def n103_13 : Code := cl n103_12
noncomputable def q103_13 : List Oper := opsOf n103_13
noncomputable def n103_14 : Code := cr n103_12
noncomputable def n103_15 : Code := cl n103_14
noncomputable def q103_15 : List Oper := opsOf n103_15
noncomputable def n103_16 : Code := cr n103_14
noncomputable def n103_17 : Code := cl n103_16
noncomputable def n103_18 : Code := cr n103_16
noncomputable def n103_19 : Code := cr n103_10
noncomputable def q103_19 : List Oper := opsOf n103_19
theorem body103 : Try.f103.body = some n103_0 := by kernel_rfl
theorem run103 (E : Ev) (args : List Value) (h : List Blk) (hl : args.length ≤ 29) : runB Try.prog E 103 args h = endS Try.prog [] h.length (codeB Try.prog E ⟨103, 29, h.length, none⟩ n103_0 ⟨enumT 0 args, h, []⟩) := GE.run_step Try.func103 body103 (by kernel_rfl) (by decide) (by kernel_rfl) hl
theorem n103_1s : codeB Try.prog E ⟨f, 29, b, ro⟩ n103_1 st = plainS (runOps Try.prog E b q103_1 (ops [false] Try.f103) st) := GE.region_step (id := 0) (GE.reg_of (by kernel_rfl)) (by kernel_rfl)
theorem n103_5s : codeB Try.prog E ⟨f, 29, b, ro⟩ n103_5 st = plainS (runOps Try.prog E b q103_5 (ops [true, false, false, false] Try.f103) st) := GE.region_step (id := 1) (GE.reg_of (by kernel_rfl)) (by kernel_rfl)
theorem n103_8s : codeB Try.prog E cx n103_8 st = some (.normal, st) := GE.skip_step (by kernel_rfl)
theorem n103_9s : codeB Try.prog LL ⟨103, 29, b, ro⟩ n103_9 st = normS b ⟨[], []⟩ (.exit 0) st := GE.exit_step (by kernel_rfl) (by kernel_rfl)
theorem n103_7s : codeB Try.prog E cx n103_7 st = condS (codeB Try.prog E cx n103_8) (codeB Try.prog E cx n103_9) (lk st.σ 11) st := GE.cond_step (c := .tmp 11) (by kernel_rfl)
theorem n103_13s : codeB Try.prog E ⟨f, 29, b, ro⟩ n103_13 st = plainS (runOps Try.prog E b q103_13 (ops [true, false, false, true, true, false, false, false] Try.f103) st) := GE.region_step (id := 2) (GE.reg_of (by kernel_rfl)) (by kernel_rfl)
theorem q103_15g6 : gd q103_15 6 = some 21 := by kernel_rfl
theorem n103_15s : codeB Try.prog E ⟨f, 29, b, ro⟩ n103_15 st = drawS [0, 0, 2, 7, 0, 31, 63, 127, 127, 127, 1023, 2047, 4095] (runOpsF Try.prog E b q103_15 (ops [true, false, false, true, true, false, false, true, false] Try.f103) st) := GE.draw_step (id := 3) (GE.reg_of (by kernel_rfl)) (by kernel_rfl) (by kernel_rfl) (by kernel_rfl)
theorem n103_17s : codeB Try.prog LL ⟨103, 29, b, ro⟩ n103_17 st = normS b ⟨[], []⟩ .ret st := GE.ret_step (by kernel_rfl) (by kernel_rfl)
theorem n103_18s : codeB Try.prog E cx n103_18 st = some (.normal, st) := GE.skip_step (by kernel_rfl)
theorem n103_16s : codeB Try.prog E cx n103_16 st = condS (codeB Try.prog E cx n103_17) (codeB Try.prog E cx n103_18) (lk st.σ 27) st := GE.cond_step (c := .tmp 27) (by kernel_rfl)
theorem n103_14s : codeB Try.prog E cx n103_14 st = thenS (codeB Try.prog E cx n103_15 st) (codeB Try.prog E cx n103_16) := GE.seq_step (by kernel_rfl)
theorem n103_12s : codeB Try.prog E cx n103_12 st = thenS (codeB Try.prog E cx n103_13 st) (codeB Try.prog E cx n103_14) := GE.seq_step (by kernel_rfl)
theorem n103_11s : codeB Try.prog E cx n103_11 st = blockS 1 (codeB Try.prog E cx n103_12 st) st := GE.block_step (by kernel_rfl)
theorem n103_19s : codeB Try.prog E ⟨f, 29, b, ro⟩ n103_19 st = plainS (runOps Try.prog E b q103_19 (ops [true, false, false, true, true, true] Try.f103) st) := GE.region_step (id := 4) (GE.reg_of (by kernel_rfl)) (by kernel_rfl)
theorem n103_10s : codeB Try.prog E cx n103_10 st = thenS (codeB Try.prog E cx n103_11 st) (codeB Try.prog E cx n103_19) := GE.seq_step (by kernel_rfl)
theorem n103_6s : codeB Try.prog E cx n103_6 st = thenS (codeB Try.prog E cx n103_7 st) (codeB Try.prog E cx n103_10) := GE.seq_step (by kernel_rfl)
theorem n103_4s : codeB Try.prog E cx n103_4 st = thenS (codeB Try.prog E cx n103_5 st) (codeB Try.prog E cx n103_6) := GE.seq_step (by kernel_rfl)
theorem n103_3k : LL.kp (⟨103, 29, b, ro⟩ : Cx).fn (4 * rid n103_4 + 3) = some ⟨[0, 1, 2, 8, 9, 10], [⟨8, 0, 3, true⟩]⟩ := by kernel_rfl
theorem n103_3s : codeB Try.prog LL ⟨103, 29, b, ro⟩ n103_3 st = headS b ⟨[0, 1, 2, 8, 9, 10], [⟨8, 0, 3, true⟩]⟩ st (lpB Try.prog LL ⟨103, 29, b, ro⟩ n103_3 n103_4) := GE.lpB_step (by kernel_rfl) (n103_3k b ro)
theorem n103_3g : LL.code ⟨103, 29, b, ro⟩ n103_3 st = headS b ⟨[0, 1, 2, 8, 9, 10], [⟨8, 0, 3, true⟩]⟩ st (lpB Try.prog LL ⟨103, 29, b, ro⟩ n103_3 n103_4) := GE.lpB_again (by kernel_rfl) (n103_3k b ro)
theorem n103_2s : codeB Try.prog E cx n103_2 st = blockS 0 (codeB Try.prog E cx n103_3 st) st := GE.block_step (by kernel_rfl)
theorem n103_0s : codeB Try.prog E cx n103_0 st = thenS (codeB Try.prog E cx n103_1 st) (codeB Try.prog E cx n103_2) := GE.seq_step (by kernel_rfl)
noncomputable def n104_0 : Code := bodyOf Try.f104
noncomputable def n104_1 : Code := cl n104_0
noncomputable def q104_1 : List Oper := opsOf n104_1
noncomputable def n104_2 : Code := cr n104_0
noncomputable def n104_3 : Code := cl n104_2
noncomputable def q104_3 : List Oper := opsOf n104_3
noncomputable def n104_4 : Code := cr n104_2
noncomputable def n104_5 : Code := cl n104_4
noncomputable def q104_5 : List Oper := opsOf n104_5
noncomputable def n104_6 : Code := cr n104_4
noncomputable def n104_7 : Code := cl n104_6
noncomputable def n104_8 : Code := cl n104_7
noncomputable def n104_9 : Code := cl n104_8
noncomputable def n104_10 : Code := cl n104_9
noncomputable def n104_11 : Code := cl n104_10
noncomputable def q104_11 : List Oper := opsOf n104_11
noncomputable def n104_12 : Code := cr n104_10
noncomputable def n104_13 : Code := cl n104_12
noncomputable def n104_14 : Code := cr n104_12
noncomputable def n104_15 : Code := cr n104_9
noncomputable def n104_16 : Code := cl n104_15
noncomputable def n104_17 : Code := cl n104_16
noncomputable def q104_17 : List Oper := opsOf n104_17
noncomputable def n104_18 : Code := cr n104_16
noncomputable def n104_19 : Code := cl n104_18
noncomputable def q104_19 : List Oper := opsOf n104_19
noncomputable def n104_20 : Code := cr n104_18
noncomputable def n104_21 : Code := cl n104_20
noncomputable def q104_21 : List Oper := opsOf n104_21
noncomputable def n104_22 : Code := cr n104_20
noncomputable def q104_22 : List Oper := opsOf n104_22
noncomputable def n104_23 : Code := cr n104_6
noncomputable def n104_24 : Code := cl n104_23
noncomputable def q104_24 : List Oper := opsOf n104_24
noncomputable def n104_25 : Code := cr n104_23
theorem body104 : Try.f104.body = some n104_0 := by kernel_rfl
theorem run104 (E : Ev) (args : List Value) (h : List Blk) (hl : args.length ≤ 54) : runB Try.prog E 104 args h = endS Try.prog [.tmp 4, .tmp 5] h.length (codeB Try.prog E ⟨104, 54, h.length, none⟩ n104_0 ⟨enumT 0 args, h, []⟩) := GE.run_step Try.func104 body104 (by kernel_rfl) (by decide) (by kernel_rfl) hl
theorem n104_1s : codeB Try.prog E ⟨f, 54, b, ro⟩ n104_1 st = plainS (runOps Try.prog E b q104_1 (ops [false] Try.f104) st) := GE.region_step (id := 0) (GE.reg_of (by kernel_rfl)) (by kernel_rfl)
theorem n104_3s : codeB Try.prog E ⟨f, 54, b, ro⟩ n104_3 st = plainS (runOps Try.prog E b q104_3 (ops [true, false] Try.f104) st) := GE.region_step (id := 1) (GE.reg_of (by kernel_rfl)) (by kernel_rfl)
theorem n104_5s : codeB Try.prog E ⟨f, 54, b, ro⟩ n104_5 st = plainS (runOps Try.prog E b q104_5 (ops [true, true, false] Try.f104) st) := GE.region_step (id := 2) (GE.reg_of (by kernel_rfl)) (by kernel_rfl)
theorem n104_11s : codeB Try.prog E ⟨f, 54, b, ro⟩ n104_11 st = plainS (runOps Try.prog E b q104_11 (ops [true, true, true, false, false, false, false, false] Try.f104) st) := GE.region_step (id := 3) (GE.reg_of (by kernel_rfl)) (by kernel_rfl)
theorem n104_13s : codeB Try.prog E cx n104_13 st = some (.normal, st) := GE.skip_step (by kernel_rfl)
theorem n104_14s : codeB Try.prog LL ⟨104, 54, b, ro⟩ n104_14 st = normS b ⟨[0, 1, 6, 7], [⟨0, 0, 1, true⟩]⟩ (.exit 0) st := GE.exit_step (by kernel_rfl) (by kernel_rfl)
theorem n104_12s : codeB Try.prog E cx n104_12 st = condS (codeB Try.prog E cx n104_13) (codeB Try.prog E cx n104_14) (lk st.σ 15) st := GE.cond_step (c := .tmp 15) (by kernel_rfl)
theorem n104_10s : codeB Try.prog E cx n104_10 st = thenS (codeB Try.prog E cx n104_11 st) (codeB Try.prog E cx n104_12) := GE.seq_step (by kernel_rfl)
theorem n104_17s : codeB Try.prog E ⟨f, 54, b, ro⟩ n104_17 st = plainS (runOps Try.prog E b q104_17 (ops [true, true, true, false, false, false, true, false, false] Try.f104) st) := GE.region_step (id := 4) (GE.reg_of (by kernel_rfl)) (by kernel_rfl)
theorem n104_19s : codeB Try.prog E ⟨f, 54, b, ro⟩ n104_19 st = plainS (runOps Try.prog E b q104_19 (ops [true, true, true, false, false, false, true, false, true, false] Try.f104) st) := GE.region_step (id := 5) (GE.reg_of (by kernel_rfl)) (by kernel_rfl)
theorem n104_21s : codeB Try.prog E ⟨f, 54, b, ro⟩ n104_21 st = plainS (runOps Try.prog E b q104_21 (ops [true, true, true, false, false, false, true, false, true, true, false] Try.f104) st) := GE.region_step (id := 6) (GE.reg_of (by kernel_rfl)) (by kernel_rfl)
theorem n104_22s : codeB Try.prog E ⟨f, 54, b, ro⟩ n104_22 st = plainS (runOps Try.prog E b q104_22 (ops [true, true, true, false, false, false, true, false, true, true, true] Try.f104) st) := GE.region_step (id := 7) (GE.reg_of (by kernel_rfl)) (by kernel_rfl)
theorem n104_20s : codeB Try.prog E cx n104_20 st = condS (codeB Try.prog E cx n104_21) (codeB Try.prog E cx n104_22) (lk st.σ 27) st := GE.cond_step (c := .tmp 27) (by kernel_rfl)
theorem n104_18s : codeB Try.prog E cx n104_18 st = thenS (codeB Try.prog E cx n104_19 st) (codeB Try.prog E cx n104_20) := GE.seq_step (by kernel_rfl)
theorem n104_16s : codeB Try.prog E cx n104_16 st = thenS (codeB Try.prog E cx n104_17 st) (codeB Try.prog E cx n104_18) := GE.seq_step (by kernel_rfl)
theorem n104_15s : codeB Try.prog E cx n104_15 st = blockS 1 (codeB Try.prog E cx n104_16 st) st := GE.block_step (by kernel_rfl)
theorem n104_9s : codeB Try.prog E cx n104_9 st = thenS (codeB Try.prog E cx n104_10 st) (codeB Try.prog E cx n104_15) := GE.seq_step (by kernel_rfl)
theorem n104_8k : LL.kp (⟨104, 54, b, ro⟩ : Cx).fn (4 * rid n104_9 + 3) = some ⟨[0, 1, 6, 7, 8], [⟨0, 0, 1, true⟩]⟩ := by kernel_rfl
theorem n104_8s : codeB Try.prog LL ⟨104, 54, b, ro⟩ n104_8 st = headS b ⟨[0, 1, 6, 7, 8], [⟨0, 0, 1, true⟩]⟩ st (lpB Try.prog LL ⟨104, 54, b, ro⟩ n104_8 n104_9) := GE.lpB_step (by kernel_rfl) (n104_8k b ro)
theorem n104_8g : LL.code ⟨104, 54, b, ro⟩ n104_8 st = headS b ⟨[0, 1, 6, 7, 8], [⟨0, 0, 1, true⟩]⟩ st (lpB Try.prog LL ⟨104, 54, b, ro⟩ n104_8 n104_9) := GE.lpB_again (by kernel_rfl) (n104_8k b ro)
theorem n104_7s : codeB Try.prog E cx n104_7 st = blockS 0 (codeB Try.prog E cx n104_8 st) st := GE.block_step (by kernel_rfl)
theorem q104_24g4 : gd q104_24 4 = some 35 := by kernel_rfl
theorem q104_24g11 : gd q104_24 11 = some 42 := by kernel_rfl
theorem q104_24g17 : gd q104_24 17 = some 48 := by kernel_rfl
theorem n104_24s : codeB Try.prog E ⟨f, 54, b, ro⟩ n104_24 st = plainS (runOps Try.prog E b q104_24 (ops [true, true, true, true, false] Try.f104) st) := GE.region_step (id := 8) (GE.reg_of (by kernel_rfl)) (by kernel_rfl)
theorem n104_25s : codeB Try.prog LL ⟨104, 54, b, ro⟩ n104_25 st = normS b ⟨[4, 5], []⟩ .ret st := GE.ret_step (by kernel_rfl) (by kernel_rfl)
theorem n104_23s : codeB Try.prog E cx n104_23 st = thenS (codeB Try.prog E cx n104_24 st) (codeB Try.prog E cx n104_25) := GE.seq_step (by kernel_rfl)
theorem n104_6s : codeB Try.prog E cx n104_6 st = thenS (codeB Try.prog E cx n104_7 st) (codeB Try.prog E cx n104_23) := GE.seq_step (by kernel_rfl)
theorem n104_4s : codeB Try.prog E cx n104_4 st = thenS (codeB Try.prog E cx n104_5 st) (codeB Try.prog E cx n104_6) := GE.seq_step (by kernel_rfl)
theorem n104_2s : codeB Try.prog E cx n104_2 st = thenS (codeB Try.prog E cx n104_3 st) (codeB Try.prog E cx n104_4) := GE.seq_step (by kernel_rfl)
theorem n104_0s : codeB Try.prog E cx n104_0 st = thenS (codeB Try.prog E cx n104_1 st) (codeB Try.prog E cx n104_2) := GE.seq_step (by kernel_rfl)
noncomputable def n108_0 : Code := bodyOf Try.f108
noncomputable def n108_1 : Code := cl n108_0
noncomputable def q108_1 : List Oper := opsOf n108_1
noncomputable def n108_2 : Code := cr n108_0
noncomputable def n108_3 : Code := cl n108_2
noncomputable def q108_3 : List Oper := opsOf n108_3
noncomputable def n108_4 : Code := cr n108_2
theorem body108 : Try.f108.body = some n108_0 := by kernel_rfl
theorem run108 (E : Ev) (args : List Value) (h : List Blk) (hl : args.length ≤ 17) : runB Try.prog E 108 args h = endS Try.prog [.tmp 4] h.length (codeB Try.prog E ⟨108, 17, h.length, none⟩ n108_0 ⟨enumT 0 args, h, []⟩) := GE.run_step Try.func108 body108 (by kernel_rfl) (by decide) (by kernel_rfl) hl
theorem n108_1s : codeB Try.prog E ⟨f, 17, b, ro⟩ n108_1 st = plainS (runOps Try.prog E b q108_1 (ops [false] Try.f108) st) := GE.region_step (id := 0) (GE.reg_of (by kernel_rfl)) (by kernel_rfl)
theorem q108_3g2 : gd q108_3 2 = some 7 := by kernel_rfl
theorem q108_3g7 : gd q108_3 7 = some 12 := by kernel_rfl
theorem n108_3s : codeB Try.prog E ⟨f, 17, b, ro⟩ n108_3 st = plainS (runOps Try.prog E b q108_3 (ops [true, false] Try.f108) st) := GE.region_step (id := 1) (GE.reg_of (by kernel_rfl)) (by kernel_rfl)
theorem n108_4s : codeB Try.prog LL ⟨108, 17, b, ro⟩ n108_4 st = normS b ⟨[4], []⟩ .ret st := GE.ret_step (by kernel_rfl) (by kernel_rfl)
theorem n108_2s : codeB Try.prog E cx n108_2 st = thenS (codeB Try.prog E cx n108_3 st) (codeB Try.prog E cx n108_4) := GE.seq_step (by kernel_rfl)
theorem n108_0s : codeB Try.prog E cx n108_0 st = thenS (codeB Try.prog E cx n108_1 st) (codeB Try.prog E cx n108_2) := GE.seq_step (by kernel_rfl)
noncomputable def n109_0 : Code := bodyOf Try.f109
noncomputable def n109_1 : Code := cl n109_0
noncomputable def q109_1 : List Oper := opsOf n109_1
noncomputable def n109_2 : Code := cr n109_0
noncomputable def n109_3 : Code := cl n109_2
noncomputable def q109_3 : List Oper := opsOf n109_3
noncomputable def n109_4 : Code := cr n109_2
theorem body109 : Try.f109.body = some n109_0 := by kernel_rfl
theorem run109 (E : Ev) (args : List Value) (h : List Blk) (hl : args.length ≤ 6) : runB Try.prog E 109 args h = endS Try.prog [.tmp 2] h.length (codeB Try.prog E ⟨109, 6, h.length, none⟩ n109_0 ⟨enumT 0 args, h, []⟩) := GE.run_step Try.func109 body109 (by kernel_rfl) (by decide) (by kernel_rfl) hl
theorem n109_1s : codeB Try.prog E ⟨f, 6, b, ro⟩ n109_1 st = plainS (runOps Try.prog E b q109_1 (ops [false] Try.f109) st) := GE.region_step (id := 0) (GE.reg_of (by kernel_rfl)) (by kernel_rfl)
theorem n109_3s : codeB Try.prog E ⟨f, 6, b, ro⟩ n109_3 st = plainS (runOps Try.prog E b q109_3 (ops [true, false] Try.f109) st) := GE.region_step (id := 1) (GE.reg_of (by kernel_rfl)) (by kernel_rfl)
theorem n109_4s : codeB Try.prog LL ⟨109, 6, b, ro⟩ n109_4 st = normS b ⟨[2], []⟩ .ret st := GE.ret_step (by kernel_rfl) (by kernel_rfl)
theorem n109_2s : codeB Try.prog E cx n109_2 st = thenS (codeB Try.prog E cx n109_3 st) (codeB Try.prog E cx n109_4) := GE.seq_step (by kernel_rfl)
theorem n109_0s : codeB Try.prog E cx n109_0 st = thenS (codeB Try.prog E cx n109_1 st) (codeB Try.prog E cx n109_2) := GE.seq_step (by kernel_rfl)
noncomputable def n111_0 : Code := bodyOf Try.f111
noncomputable def n111_1 : Code := cl n111_0
noncomputable def q111_1 : List Oper := opsOf n111_1
noncomputable def n111_2 : Code := cr n111_0
noncomputable def n111_3 : Code := cl n111_2
noncomputable def q111_3 : List Oper := opsOf n111_3
noncomputable def n111_4 : Code := cr n111_2
theorem body111 : Try.f111.body = some n111_0 := by kernel_rfl
theorem run111 (E : Ev) (args : List Value) (h : List Blk) (hl : args.length ≤ 6) : runB Try.prog E 111 args h = endS Try.prog [.tmp 2] h.length (codeB Try.prog E ⟨111, 6, h.length, none⟩ n111_0 ⟨enumT 0 args, h, []⟩) := GE.run_step Try.func111 body111 (by kernel_rfl) (by decide) (by kernel_rfl) hl
theorem n111_1s : codeB Try.prog E ⟨f, 6, b, ro⟩ n111_1 st = plainS (runOps Try.prog E b q111_1 (ops [false] Try.f111) st) := GE.region_step (id := 0) (GE.reg_of (by kernel_rfl)) (by kernel_rfl)
theorem n111_3s : codeB Try.prog E ⟨f, 6, b, ro⟩ n111_3 st = plainS (runOps Try.prog E b q111_3 (ops [true, false] Try.f111) st) := GE.region_step (id := 1) (GE.reg_of (by kernel_rfl)) (by kernel_rfl)
theorem n111_4s : codeB Try.prog LL ⟨111, 6, b, ro⟩ n111_4 st = normS b ⟨[2], []⟩ .ret st := GE.ret_step (by kernel_rfl) (by kernel_rfl)
theorem n111_2s : codeB Try.prog E cx n111_2 st = thenS (codeB Try.prog E cx n111_3 st) (codeB Try.prog E cx n111_4) := GE.seq_step (by kernel_rfl)
theorem n111_0s : codeB Try.prog E cx n111_0 st = thenS (codeB Try.prog E cx n111_1 st) (codeB Try.prog E cx n111_2) := GE.seq_step (by kernel_rfl)
theorem cv_5_3 : convK Try.prog 5 3 = some .i64 := by kernel_rfl
theorem za_24 : zeroA Try.prog 24 = some (.agg #[(.int .i64 (0)), (.int .i64 (0)), (.slice none 0 0)]) := by kernel_rfl
theorem pl_24 : plK Try.prog 24 = some [(0, 1), (1, 1), (2, 1)] := by kernel_rfl
theorem sz_24 : aggSize Try.prog 24 = some 3 := by kernel_rfl
theorem za_55 : zeroA Try.prog 55 = some (.agg #[(.int .i64 (0)), (.int .i64 (0)), (.int .i64 (0)), (.int .i64 (0)), (.int .i64 (0)), (.int .i64 (0)), (.int .i64 (0)), (.int .i64 (0)), (.int .i64 (0)), (.int .i64 (0)), (.int .i64 (0)), (.int .i64 (0))]) := by kernel_rfl
theorem ea_55 : elemK Try.prog 55 = some (some 12, 1) := by kernel_rfl
theorem sz_3 : aggSize Try.prog 3 = some 1 := by kernel_rfl
theorem es_25 : elemK Try.prog 25 = some (none, 1) := by kernel_rfl
theorem ze_25 : zeroE Try.prog 25 = some (.int .i64 (0)) := by kernel_rfl
theorem ba_25_1 : baseArr (Value.cells (.int .i64 (0))) (1 * 1) = #[(.int .i64 (0))] := by kernel_rfl
theorem ap_25 : apK Try.prog 25 = some (1, 8) := by kernel_rfl
theorem ni_25 : notInt Try.prog 25 = true := by kernel_rfl
theorem ea_49 : elemK Try.prog 49 = some (some 12, 1) := by kernel_rfl
theorem ia_5 : aggK Try.prog 5 = some (false, 1) := by kernel_rfl
theorem fa_24_0 : fieldAt Try.prog 24 0 = some (0, 1) := by kernel_rfl
theorem ia_3 : aggK Try.prog 3 = some (false, 1) := by kernel_rfl
theorem fa_24_1 : fieldAt Try.prog 24 1 = some (1, 1) := by kernel_rfl
theorem lk_84 : lenK Try.prog 84 = some .sl := by kernel_rfl
theorem es_84 : elemK Try.prog 84 = some (none, 2) := by kernel_rfl
theorem ia_85 : aggK Try.prog 85 = some (true, 2) := by kernel_rfl
theorem za_85 : zeroA Try.prog 85 = some (.agg #[(.int .u8 (0)), (.int .u8 (0))]) := by kernel_rfl
theorem sz_85 : aggSize Try.prog 85 = some 2 := by kernel_rfl
theorem ea_85 : elemK Try.prog 85 = some (some 2, 1) := by kernel_rfl
theorem fa_24_2 : fieldAt Try.prog 24 2 = some (2, 1) := by kernel_rfl
theorem ia_22 : aggK Try.prog 22 = some (false, 1) := by kernel_rfl
theorem es_22 : elemK Try.prog 22 = some (none, 3) := by kernel_rfl
theorem ze_22 : zeroE Try.prog 22 = some (.agg #[(.int .i64 (0)), (.int .i64 (0)), (.int .i64 (0))]) := by kernel_rfl
theorem ba_22_1 : baseArr (Value.cells (.agg #[(.int .i64 (0)), (.int .i64 (0)), (.int .i64 (0))])) (1 * 3) = #[(.int .i64 (0)), (.int .i64 (0)), (.int .i64 (0))] := by kernel_rfl
theorem ap_22 : apK Try.prog 22 = some (3, 24) := by kernel_rfl
theorem ni_22 : notInt Try.prog 22 = true := by kernel_rfl
theorem sz_22 : aggSize Try.prog 22 = some 1 := by kernel_rfl
theorem lk_22 : lenK Try.prog 22 = some .sl := by kernel_rfl
theorem ia_24 : aggK Try.prog 24 = some (true, 3) := by kernel_rfl
theorem lk_25 : lenK Try.prog 25 = some .sl := by kernel_rfl
theorem ia_55 : aggK Try.prog 55 = some (true, 12) := by kernel_rfl
theorem ix_55 : arrK Try.prog 55 = some (12, 1, false) := by kernel_rfl
theorem za_57 : zeroA Try.prog 57 = some (.agg #[(.int .i64 (0)), (.int .i64 (0))]) := by kernel_rfl
theorem sz_57 : aggSize Try.prog 57 = some 2 := by kernel_rfl
theorem fa_57_0 : fieldAt Try.prog 57 0 = some (0, 1) := by kernel_rfl
theorem fa_57_1 : fieldAt Try.prog 57 1 = some (1, 1) := by kernel_rfl
theorem za_115 : zeroA Try.prog 115 = some (.agg #[(.int .i64 (0)), (.int .i64 (0)), (.slice none 0 0), (.slice none 0 0)]) := by kernel_rfl
theorem sz_115 : aggSize Try.prog 115 = some 4 := by kernel_rfl
theorem ia_59 : aggK Try.prog 59 = some (true, 3) := by kernel_rfl
theorem za_59 : zeroA Try.prog 59 = some (.agg #[(.int .i64 (0)), (.int .i64 (0)), (.int .i64 (0))]) := by kernel_rfl
theorem sz_59 : aggSize Try.prog 59 = some 3 := by kernel_rfl
theorem fa_59_0 : fieldAt Try.prog 59 0 = some (0, 1) := by kernel_rfl
theorem pl_57 : plK Try.prog 57 = some [(0, 1), (1, 1)] := by kernel_rfl
theorem ia_115 : aggK Try.prog 115 = some (true, 4) := by kernel_rfl
theorem za_127 : zeroA Try.prog 127 = some (.agg #[(.int .i64 (0)), (.int .i64 (0)), (.bool false)]) := by kernel_rfl
theorem sz_127 : aggSize Try.prog 127 = some 3 := by kernel_rfl
theorem fa_127_1 : fieldAt Try.prog 127 1 = some (2, 1) := by kernel_rfl
theorem ia_4 : aggK Try.prog 4 = some (false, 1) := by kernel_rfl
theorem fa_127_0 : fieldAt Try.prog 127 0 = some (0, 2) := by kernel_rfl
theorem ia_57 : aggK Try.prog 57 = some (true, 2) := by kernel_rfl
theorem pl_59 : plK Try.prog 59 = some [(0, 1), (1, 2)] := by kernel_rfl
theorem lk_41 : lenK Try.prog 41 = some .sl := by kernel_rfl
theorem es_41 : elemK Try.prog 41 = some (none, 2) := by kernel_rfl
theorem ia_95 : aggK Try.prog 95 = some (true, 2) := by kernel_rfl
theorem za_95 : zeroA Try.prog 95 = some (.agg #[(.int .i64 (0)), (.int .i64 (0))]) := by kernel_rfl
theorem sz_95 : aggSize Try.prog 95 = some 2 := by kernel_rfl
theorem za_3 : zeroA Try.prog 3 = some (.int .i64 (0)) := by kernel_rfl
theorem sl_22 : elemK Try.prog 22 = some (none, 3) := by kernel_rfl
theorem pl_95 : plK Try.prog 95 = some [(0, 1), (1, 1)] := by kernel_rfl
theorem ze_41 : zeroE Try.prog 41 = some (.agg #[(.int .i64 (0)), (.int .i64 (0))]) := by kernel_rfl
theorem ba_41_1 : baseArr (Value.cells (.agg #[(.int .i64 (0)), (.int .i64 (0))])) (1 * 2) = #[(.int .i64 (0)), (.int .i64 (0))] := by kernel_rfl
theorem ap_41 : apK Try.prog 41 = some (2, 16) := by kernel_rfl
theorem ni_41 : notInt Try.prog 41 = true := by kernel_rfl
theorem fa_95_1 : fieldAt Try.prog 95 1 = some (1, 1) := by kernel_rfl
theorem pl_115 : plK Try.prog 115 = some [(0, 3), (3, 1)] := by kernel_rfl
theorem fa_59_1 : fieldAt Try.prog 59 1 = some (1, 2) := by kernel_rfl
theorem za_155 : zeroA Try.prog 155 = some .nilFunc := by kernel_rfl
theorem sz_155 : aggSize Try.prog 155 = some 1 := by kernel_rfl
theorem ia_155 : aggK Try.prog 155 = some (false, 1) := by kernel_rfl
theorem fa_115_0 : fieldAt Try.prog 115 0 = some (0, 3) := by kernel_rfl
theorem ia_127 : aggK Try.prog 127 = some (true, 3) := by kernel_rfl
theorem za_4 : zeroA Try.prog 4 = some (.bool false) := by kernel_rfl
theorem sz_4 : aggSize Try.prog 4 = some 1 := by kernel_rfl
theorem fa_115_1 : fieldAt Try.prog 115 1 = some (3, 1) := by kernel_rfl
theorem ia_25 : aggK Try.prog 25 = some (false, 1) := by kernel_rfl
theorem cv_3_190 : convK Try.prog 3 190 = some .u64 := by kernel_rfl
theorem cv_190_3 : convK Try.prog 190 3 = some .i64 := by kernel_rfl

end Go.Proofs.Ytiafgimgcbmgaaa.bl
