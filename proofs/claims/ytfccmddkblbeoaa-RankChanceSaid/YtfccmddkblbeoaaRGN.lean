/-
  Names for the nodes of the code of some functions (projections of their bodies), the step of each node, and the facts of types that they use.
-/
import Derived.Test.YtfccmddkblbeoaaKp
namespace Go.Proofs.Ytfccmddkblbeoaa.rk
open Go.GE
set_option maxRecDepth 100000
variable (E : Ev) (cx : Cx) (st : St) (f nt b : Nat) (ro : Option Nat)
noncomputable def n9_0 : Code := bodyOf Try.f9
noncomputable def n9_1 : Code := cl n9_0
noncomputable def q9_1 : List Oper := opsOf n9_1
noncomputable def n9_2 : Code := cr n9_0
noncomputable def n9_3 : Code := cl n9_2
noncomputable def q9_3 : List Oper := opsOf n9_3
noncomputable def n9_4 : Code := cr n9_2
noncomputable def n9_5 : Code := cl n9_4
noncomputable def q9_5 : List Oper := opsOf n9_5
noncomputable def n9_6 : Code := cr n9_4
noncomputable def n9_7 : Code := cl n9_6
noncomputable def q9_7 : List Oper := opsOf n9_7
noncomputable def n9_8 : Code := cr n9_6
noncomputable def n9_9 : Code := cl n9_8
noncomputable def q9_9 : List Oper := opsOf n9_9
noncomputable def n9_10 : Code := cr n9_8
noncomputable def n9_11 : Code := cl n9_10
noncomputable def n9_12 : Code := cl n9_11
noncomputable def q9_12 : List Oper := opsOf n9_12
noncomputable def n9_13 : Code := cr n9_11
noncomputable def n9_14 : Code := cl n9_13
noncomputable def n9_15 : Code := cl n9_14
noncomputable def n9_16 : Code := cl n9_15
noncomputable def q9_16 : List Oper := opsOf n9_16
noncomputable def n9_17 : Code := cr n9_15
noncomputable def n9_18 : Code := cl n9_17
noncomputable def n9_19 : Code := cl n9_18
noncomputable def n9_20 : Code := cr n9_18
noncomputable def n9_21 : Code := cr n9_17
noncomputable def n9_22 : Code := cl n9_21
noncomputable def n9_23 : Code := cl n9_22
noncomputable def n9_24 : Code := cl n9_23
noncomputable def q9_24 : List Oper := opsOf n9_24
noncomputable def n9_25 : Code := cr n9_23
noncomputable def n9_26 : Code := cl n9_25
noncomputable def q9_26 : List Oper := opsOf n9_26
noncomputable def n9_27 : Code := cr n9_25
noncomputable def n9_28 : Code := cl n9_27
noncomputable def n9_29 : Code := cl n9_28
noncomputable def n9_30 : Code := cl n9_29
noncomputable def n9_31 : Code := cl n9_30
noncomputable def q9_31 : List Oper := opsOf n9_31
noncomputable def n9_32 : Code := cr n9_30
noncomputable def n9_33 : Code := cl n9_32
noncomputable def n9_34 : Code := cr n9_32
noncomputable def n9_35 : Code := cr n9_29
noncomputable def n9_36 : Code := cl n9_35
noncomputable def n9_37 : Code := cl n9_36
noncomputable def n9_38 : Code := cl n9_37
noncomputable def q9_38 : List Oper := opsOf n9_38
noncomputable def n9_39 : Code := cr n9_37
noncomputable def n9_40 : Code := cl n9_39
noncomputable def q9_40 : List Oper := opsOf n9_40
noncomputable def n9_41 : Code := cr n9_39
noncomputable def n9_42 : Code := cl n9_41
noncomputable def n9_43 : Code := cl n9_42
noncomputable def q9_43 : List Oper := opsOf n9_43
noncomputable def n9_44 : Code := cr n9_42
noncomputable def n9_45 : Code := cl n9_44
noncomputable def n9_46 : Code := cl n9_45
noncomputable def n9_47 : Code := cl n9_46
noncomputable def q9_47 : List Oper := opsOf n9_47
noncomputable def n9_48 : Code := cr n9_46
noncomputable def n9_49 : Code := cl n9_48
noncomputable def n9_50 : Code := cl n9_49
noncomputable def n9_51 : Code := cr n9_49
noncomputable def n9_52 : Code := cr n9_48
noncomputable def n9_53 : Code := cl n9_52
noncomputable def n9_54 : Code := cl n9_53
noncomputable def n9_55 : Code := cl n9_54
noncomputable def q9_55 : List Oper := opsOf n9_55
noncomputable def n9_56 : Code := cr n9_54
noncomputable def n9_57 : Code := cl n9_56
noncomputable def q9_57 : List Oper := opsOf n9_57
noncomputable def n9_58 : Code := cr n9_56
noncomputable def n9_59 : Code := cl n9_58
noncomputable def q9_59 : List Oper := opsOf n9_59
noncomputable def n9_60 : Code := cr n9_58
noncomputable def n9_61 : Code := cr n9_52
noncomputable def q9_61 : List Oper := opsOf n9_61
noncomputable def n9_62 : Code := cr n9_41
noncomputable def n9_63 : Code := cl n9_62
noncomputable def q9_63 : List Oper := opsOf n9_63
noncomputable def n9_64 : Code := cr n9_62
noncomputable def n9_65 : Code := cl n9_64
noncomputable def n9_66 : Code := cl n9_65
noncomputable def q9_66 : List Oper := opsOf n9_66
noncomputable def n9_67 : Code := cr n9_65
noncomputable def n9_68 : Code := cr n9_64
noncomputable def n9_69 : Code := cr n9_35
noncomputable def q9_69 : List Oper := opsOf n9_69
noncomputable def n9_70 : Code := cr n9_21
noncomputable def q9_70 : List Oper := opsOf n9_70
noncomputable def n9_71 : Code := cr n9_10
noncomputable def n9_72 : Code := cl n9_71
noncomputable def q9_72 : List Oper := opsOf n9_72
noncomputable def n9_73 : Code := cr n9_71
noncomputable def n9_74 : Code := cl n9_73
noncomputable def q9_74 : List Oper := opsOf n9_74
noncomputable def n9_75 : Code := cr n9_73
noncomputable def n9_76 : Code := cl n9_75
noncomputable def n9_77 : Code := cl n9_76
noncomputable def q9_77 : List Oper := opsOf n9_77
noncomputable def n9_78 : Code := cr n9_76
noncomputable def n9_79 : Code := cl n9_78
noncomputable def n9_80 : Code := cl n9_79
noncomputable def q9_80 : List Oper := opsOf n9_80
noncomputable def n9_81 : Code := cr n9_79
noncomputable def n9_82 : Code := cr n9_78
noncomputable def n9_83 : Code := cr n9_75
noncomputable def n9_84 : Code := cl n9_83
noncomputable def q9_84 : List Oper := opsOf n9_84
noncomputable def n9_85 : Code := cr n9_83
noncomputable def n9_86 : Code := cl n9_85
noncomputable def q9_86 : List Oper := opsOf n9_86
noncomputable def n9_87 : Code := cr n9_85
noncomputable def n9_88 : Code := cl n9_87
noncomputable def n9_89 : Code := cl n9_88
noncomputable def q9_89 : List Oper := opsOf n9_89
noncomputable def n9_90 : Code := cr n9_88
noncomputable def n9_91 : Code := cl n9_90
noncomputable def n9_92 : Code := cl n9_91
noncomputable def q9_92 : List Oper := opsOf n9_92
noncomputable def n9_93 : Code := cr n9_91
noncomputable def n9_94 : Code := cr n9_90
noncomputable def n9_95 : Code := cr n9_87
noncomputable def n9_96 : Code := cl n9_95
noncomputable def q9_96 : List Oper := opsOf n9_96
noncomputable def n9_97 : Code := cr n9_95
noncomputable def n9_98 : Code := cl n9_97
noncomputable def n9_99 : Code := cl n9_98
noncomputable def q9_99 : List Oper := opsOf n9_99
noncomputable def n9_100 : Code := cr n9_98
noncomputable def n9_101 : Code := cl n9_100
noncomputable def n9_102 : Code := cl n9_101
noncomputable def n9_103 : Code := cl n9_102
noncomputable def q9_103 : List Oper := opsOf n9_103
noncomputable def n9_104 : Code := cr n9_102
noncomputable def n9_105 : Code := cl n9_104
noncomputable def n9_106 : Code := cl n9_105
noncomputable def n9_107 : Code := cr n9_105
noncomputable def n9_108 : Code := cr n9_104
noncomputable def n9_109 : Code := cl n9_108
noncomputable def n9_110 : Code := cl n9_109
noncomputable def n9_111 : Code := cl n9_110
noncomputable def q9_111 : List Oper := opsOf n9_111
noncomputable def n9_112 : Code := cr n9_110
noncomputable def n9_113 : Code := cl n9_112
noncomputable def q9_113 : List Oper := opsOf n9_113
noncomputable def n9_114 : Code := cr n9_112
noncomputable def n9_115 : Code := cl n9_114
noncomputable def n9_116 : Code := cl n9_115
noncomputable def n9_117 : Code := cl n9_116
noncomputable def q9_117 : List Oper := opsOf n9_117
noncomputable def n9_118 : Code := cr n9_116
noncomputable def n9_119 : Code := cl n9_118
noncomputable def n9_120 : Code := cl n9_119
noncomputable def n9_121 : Code := cr n9_119
noncomputable def n9_122 : Code := cr n9_118
noncomputable def n9_123 : Code := cl n9_122
noncomputable def n9_124 : Code := cl n9_123
noncomputable def n9_125 : Code := cl n9_124
noncomputable def q9_125 : List Oper := opsOf n9_125
noncomputable def n9_126 : Code := cr n9_124
noncomputable def n9_127 : Code := cl n9_126
noncomputable def n9_128 : Code := cl n9_127
noncomputable def q9_128 : List Oper := opsOf n9_128
noncomputable def n9_129 : Code := cr n9_127
noncomputable def n9_130 : Code := cl n9_129
noncomputable def q9_130 : List Oper := opsOf n9_130
noncomputable def n9_131 : Code := cr n9_129
noncomputable def n9_132 : Code := cr n9_126
noncomputable def n9_133 : Code := cl n9_132
noncomputable def q9_133 : List Oper := opsOf n9_133
noncomputable def n9_134 : Code := cr n9_132
noncomputable def n9_135 : Code := cl n9_134
noncomputable def n9_136 : Code := cr n9_134
noncomputable def n9_137 : Code := cr n9_122
noncomputable def q9_137 : List Oper := opsOf n9_137
noncomputable def n9_138 : Code := cr n9_108
noncomputable def q9_138 : List Oper := opsOf n9_138
noncomputable def n9_139 : Code := cr n9_97
noncomputable def n9_140 : Code := cl n9_139
noncomputable def q9_140 : List Oper := opsOf n9_140
noncomputable def n9_141 : Code := cr n9_139
theorem body9 : Try.f9.body = some n9_0 := by kernel_rfl
theorem run9 (E : Ev) (args : List Value) (h : List Blk) (hl : args.length ≤ 242) : runB Try.prog E 9 args h = endS Try.prog [.tmp 4] h.length (codeB Try.prog E ⟨9, 242, h.length, none⟩ n9_0 ⟨enumT 0 args, h, []⟩) := GE.run_step Try.func9 body9 (by kernel_rfl) (by decide) (by kernel_rfl) hl
theorem n9_1s : codeB Try.prog E ⟨f, 242, b, ro⟩ n9_1 st = plainS (runOps Try.prog E b q9_1 (ops [false] Try.f9) st) := GE.region_step (id := 0) (GE.reg_of (by kernel_rfl)) (by kernel_rfl)
theorem n9_3s : codeB Try.prog E ⟨f, 242, b, ro⟩ n9_3 st = plainS (runOps Try.prog E b q9_3 (ops [true, false] Try.f9) st) := GE.region_step (id := 1) (GE.reg_of (by kernel_rfl)) (by kernel_rfl)
theorem n9_5s : codeB Try.prog E ⟨f, 242, b, ro⟩ n9_5 st = plainS (runOps Try.prog E b q9_5 (ops [true, true, false] Try.f9) st) := GE.region_step (id := 2) (GE.reg_of (by kernel_rfl)) (by kernel_rfl)
theorem n9_7s : codeB Try.prog E ⟨f, 242, b, ro⟩ n9_7 st = plainS (runOps Try.prog E b q9_7 (ops [true, true, true, false] Try.f9) st) := GE.region_step (id := 3) (GE.reg_of (by kernel_rfl)) (by kernel_rfl)
theorem n9_9s : codeB Try.prog E ⟨f, 242, b, ro⟩ n9_9 st = drawS [0, 1, 3, 0, 8, 31, 0, 64, 192, 0, 512, 1984, 63, 8191] (runOpsF Try.prog E b q9_9 (ops [true, true, true, true, false] Try.f9) st) := GE.draw_step (id := 4) (GE.reg_of (by kernel_rfl)) (by kernel_rfl) (by kernel_rfl) (by kernel_rfl)
theorem n9_12s : codeB Try.prog E ⟨f, 242, b, ro⟩ n9_12 st = plainS (runOps Try.prog E b q9_12 (ops [true, true, true, true, true, false, false] Try.f9) st) := GE.region_step (id := 5) (GE.reg_of (by kernel_rfl)) (by kernel_rfl)
theorem n9_16s : codeB Try.prog E ⟨f, 242, b, ro⟩ n9_16 st = plainS (runOps Try.prog E b q9_16 (ops [true, true, true, true, true, false, true, false, false, false] Try.f9) st) := GE.region_step (id := 6) (GE.reg_of (by kernel_rfl)) (by kernel_rfl)
theorem n9_19s : codeB Try.prog E cx n9_19 st = some (.normal, st) := GE.skip_step (by kernel_rfl)
theorem n9_20s : codeB Try.prog LL ⟨9, 242, b, ro⟩ n9_20 st = normS b ⟨[5, 7, 8, 9, 6], [⟨5, 0, 2, true⟩, ⟨6, 0, 1, false⟩]⟩ (.exit 0) st := GE.exit_step (by kernel_rfl) (by kernel_rfl)
theorem n9_18s : codeB Try.prog E cx n9_18 st = condS (codeB Try.prog E cx n9_19) (codeB Try.prog E cx n9_20) (lk st.σ 49) st := GE.cond_step (c := .tmp 49) (by kernel_rfl)
theorem n9_24s : codeB Try.prog E ⟨f, 242, b, ro⟩ n9_24 st = plainS (runOps Try.prog E b q9_24 (ops [true, true, true, true, true, false, true, false, false, true, true, false, false, false] Try.f9) st) := GE.region_step (id := 7) (GE.reg_of (by kernel_rfl)) (by kernel_rfl)
theorem n9_26s : codeB Try.prog E ⟨f, 242, b, ro⟩ n9_26 st = plainS (runOps Try.prog E b q9_26 (ops [true, true, true, true, true, false, true, false, false, true, true, false, false, true, false] Try.f9) st) := GE.region_step (id := 8) (GE.reg_of (by kernel_rfl)) (by kernel_rfl)
theorem n9_31s : codeB Try.prog E ⟨f, 242, b, ro⟩ n9_31 st = plainS (runOps Try.prog E b q9_31 (ops [true, true, true, true, true, false, true, false, false, true, true, false, false, true, true, false, false, false, false] Try.f9) st) := GE.region_step (id := 9) (GE.reg_of (by kernel_rfl)) (by kernel_rfl)
theorem n9_33s : codeB Try.prog E cx n9_33 st = some (.normal, st) := GE.skip_step (by kernel_rfl)
theorem n9_34s : codeB Try.prog LL ⟨9, 242, b, ro⟩ n9_34 st = normS b ⟨[5, 7, 8, 9, 47, 48, 6], [⟨5, 0, 2, true⟩, ⟨6, 0, 1, false⟩]⟩ (.exit 2) st := GE.exit_step (by kernel_rfl) (by kernel_rfl)
theorem n9_32s : codeB Try.prog E cx n9_32 st = condS (codeB Try.prog E cx n9_33) (codeB Try.prog E cx n9_34) (lk st.σ 54) st := GE.cond_step (c := .tmp 54) (by kernel_rfl)
theorem n9_30s : codeB Try.prog E cx n9_30 st = thenS (codeB Try.prog E cx n9_31 st) (codeB Try.prog E cx n9_32) := GE.seq_step (by kernel_rfl)
theorem n9_38s : codeB Try.prog E ⟨f, 242, b, ro⟩ n9_38 st = plainS (runOps Try.prog E b q9_38 (ops [true, true, true, true, true, false, true, false, false, true, true, false, false, true, true, false, false, true, false, false, false] Try.f9) st) := GE.region_step (id := 11) (GE.reg_of (by kernel_rfl)) (by kernel_rfl)
theorem n9_40s : codeB Try.prog E ⟨f, 242, b, ro⟩ n9_40 st = plainS (runOps Try.prog E b q9_40 (ops [true, true, true, true, true, false, true, false, false, true, true, false, false, true, true, false, false, true, false, false, true, false] Try.f9) st) := GE.region_step (id := 12) (GE.reg_of (by kernel_rfl)) (by kernel_rfl)
theorem n9_43s : codeB Try.prog E ⟨f, 242, b, ro⟩ n9_43 st = plainS (runOps Try.prog E b q9_43 (ops [true, true, true, true, true, false, true, false, false, true, true, false, false, true, true, false, false, true, false, false, true, true, false, false] Try.f9) st) := GE.region_step (id := 13) (GE.reg_of (by kernel_rfl)) (by kernel_rfl)
theorem n9_47s : codeB Try.prog E ⟨f, 242, b, ro⟩ n9_47 st = plainS (runOps Try.prog E b q9_47 (ops [true, true, true, true, true, false, true, false, false, true, true, false, false, true, true, false, false, true, false, false, true, true, false, true, false, false, false] Try.f9) st) := GE.region_step (id := 14) (GE.reg_of (by kernel_rfl)) (by kernel_rfl)
theorem n9_50s : codeB Try.prog E cx n9_50 st = some (.normal, st) := GE.skip_step (by kernel_rfl)
theorem n9_51s : codeB Try.prog LL ⟨9, 242, b, ro⟩ n9_51 st = normS b ⟨[12, 13, 14, 10, 11, 5, 7, 8, 9, 47, 48, 6], [⟨5, 0, 2, true⟩, ⟨6, 0, 1, false⟩]⟩ (.exit 4) st := GE.exit_step (by kernel_rfl) (by kernel_rfl)
theorem n9_49s : codeB Try.prog E cx n9_49 st = condS (codeB Try.prog E cx n9_50) (codeB Try.prog E cx n9_51) (lk st.σ 67) st := GE.cond_step (c := .tmp 67) (by kernel_rfl)
theorem n9_55s : codeB Try.prog E ⟨f, 242, b, ro⟩ n9_55 st = plainS (runOps Try.prog E b q9_55 (ops [true, true, true, true, true, false, true, false, false, true, true, false, false, true, true, false, false, true, false, false, true, true, false, true, false, false, true, true, false, false, false] Try.f9) st) := GE.region_step (id := 15) (GE.reg_of (by kernel_rfl)) (by kernel_rfl)
theorem n9_57s : codeB Try.prog E ⟨f, 242, b, ro⟩ n9_57 st = plainS (runOps Try.prog E b q9_57 (ops [true, true, true, true, true, false, true, false, false, true, true, false, false, true, true, false, false, true, false, false, true, true, false, true, false, false, true, true, false, false, true, false] Try.f9) st) := GE.region_step (id := 16) (GE.reg_of (by kernel_rfl)) (by kernel_rfl)
theorem n9_59s : codeB Try.prog E ⟨f, 242, b, ro⟩ n9_59 st = plainS (runOps Try.prog E b q9_59 (ops [true, true, true, true, true, false, true, false, false, true, true, false, false, true, true, false, false, true, false, false, true, true, false, true, false, false, true, true, false, false, true, true, false] Try.f9) st) := GE.region_step (id := 17) (GE.reg_of (by kernel_rfl)) (by kernel_rfl)
theorem n9_60s : codeB Try.prog E cx n9_60 st = some (.normal, st) := GE.skip_step (by kernel_rfl)
theorem n9_58s : codeB Try.prog E cx n9_58 st = condS (codeB Try.prog E cx n9_59) (codeB Try.prog E cx n9_60) (lk st.σ 76) st := GE.cond_step (c := .tmp 76) (by kernel_rfl)
theorem n9_56s : codeB Try.prog E cx n9_56 st = thenS (codeB Try.prog E cx n9_57 st) (codeB Try.prog E cx n9_58) := GE.seq_step (by kernel_rfl)
theorem n9_54s : codeB Try.prog E cx n9_54 st = thenS (codeB Try.prog E cx n9_55 st) (codeB Try.prog E cx n9_56) := GE.seq_step (by kernel_rfl)
theorem n9_53s : codeB Try.prog E cx n9_53 st = blockS 5 (codeB Try.prog E cx n9_54 st) st := GE.block_step (by kernel_rfl)
theorem n9_61s : codeB Try.prog E ⟨f, 242, b, ro⟩ n9_61 st = plainS (runOps Try.prog E b q9_61 (ops [true, true, true, true, true, false, true, false, false, true, true, false, false, true, true, false, false, true, false, false, true, true, false, true, false, false, true, true, true] Try.f9) st) := GE.region_step (id := 18) (GE.reg_of (by kernel_rfl)) (by kernel_rfl)
theorem n9_52s : codeB Try.prog E cx n9_52 st = thenS (codeB Try.prog E cx n9_53 st) (codeB Try.prog E cx n9_61) := GE.seq_step (by kernel_rfl)
theorem n9_48s : codeB Try.prog E cx n9_48 st = thenS (codeB Try.prog E cx n9_49 st) (codeB Try.prog E cx n9_52) := GE.seq_step (by kernel_rfl)
theorem n9_46s : codeB Try.prog E cx n9_46 st = thenS (codeB Try.prog E cx n9_47 st) (codeB Try.prog E cx n9_48) := GE.seq_step (by kernel_rfl)
theorem n9_45k : LL.kp (⟨9, 242, b, ro⟩ : Cx).fn (4 * rid n9_46 + 3) = some ⟨[12, 13, 14, 65, 66, 10, 11, 5, 7, 8, 9, 47, 48, 6, 64], [⟨64, 0, 1, false⟩, ⟨5, 0, 2, true⟩, ⟨6, 0, 1, false⟩]⟩ := by kernel_rfl
theorem n9_45s : codeB Try.prog LL ⟨9, 242, b, ro⟩ n9_45 st = headS b ⟨[12, 13, 14, 65, 66, 10, 11, 5, 7, 8, 9, 47, 48, 6, 64], [⟨64, 0, 1, false⟩, ⟨5, 0, 2, true⟩, ⟨6, 0, 1, false⟩]⟩ st (lpB Try.prog LL ⟨9, 242, b, ro⟩ n9_45 n9_46) := GE.lpB_step (by kernel_rfl) (n9_45k b ro)
theorem n9_45g : LL.code ⟨9, 242, b, ro⟩ n9_45 st = headS b ⟨[12, 13, 14, 65, 66, 10, 11, 5, 7, 8, 9, 47, 48, 6, 64], [⟨64, 0, 1, false⟩, ⟨5, 0, 2, true⟩, ⟨6, 0, 1, false⟩]⟩ st (lpB Try.prog LL ⟨9, 242, b, ro⟩ n9_45 n9_46) := GE.lpB_again (by kernel_rfl) (n9_45k b ro)
theorem n9_44s : codeB Try.prog E cx n9_44 st = blockS 4 (codeB Try.prog E cx n9_45 st) st := GE.block_step (by kernel_rfl)
theorem n9_42s : codeB Try.prog E cx n9_42 st = thenS (codeB Try.prog E cx n9_43 st) (codeB Try.prog E cx n9_44) := GE.seq_step (by kernel_rfl)
theorem q9_63g2 : gd q9_63 2 = some 82 := by kernel_rfl
theorem q9_63g7 : gd q9_63 7 = some 87 := by kernel_rfl
theorem q9_63g13 : gd q9_63 13 = some 93 := by kernel_rfl
theorem q9_63g18 : gd q9_63 18 = some 98 := by kernel_rfl
theorem q9_63g29 : gd q9_63 29 = some 109 := by kernel_rfl
theorem n9_63s : codeB Try.prog E ⟨f, 242, b, ro⟩ n9_63 st = plainS (runOps Try.prog E b q9_63 (ops [true, true, true, true, true, false, true, false, false, true, true, false, false, true, true, false, false, true, false, false, true, true, true, false] Try.f9) st) := GE.region_step (id := 19) (GE.reg_of (by kernel_rfl)) (by kernel_rfl)
theorem n9_66s : codeB Try.prog E ⟨f, 242, b, ro⟩ n9_66 st = plainS (runOps Try.prog E b q9_66 (ops [true, true, true, true, true, false, true, false, false, true, true, false, false, true, true, false, false, true, false, false, true, true, true, true, false, false] Try.f9) st) := GE.region_step (id := 20) (GE.reg_of (by kernel_rfl)) (by kernel_rfl)
theorem n9_67s : codeB Try.prog LL ⟨9, 242, b, ro⟩ n9_67 st = normS b ⟨[4], []⟩ .ret st := GE.ret_step (by kernel_rfl) (by kernel_rfl)
theorem n9_65s : codeB Try.prog E cx n9_65 st = thenS (codeB Try.prog E cx n9_66 st) (codeB Try.prog E cx n9_67) := GE.seq_step (by kernel_rfl)
theorem n9_68s : codeB Try.prog E cx n9_68 st = some (.normal, st) := GE.skip_step (by kernel_rfl)
theorem n9_64s : codeB Try.prog E cx n9_64 st = condS (codeB Try.prog E cx n9_65) (codeB Try.prog E cx n9_68) (lk st.σ 113) st := GE.cond_step (c := .tmp 113) (by kernel_rfl)
theorem n9_62s : codeB Try.prog E cx n9_62 st = thenS (codeB Try.prog E cx n9_63 st) (codeB Try.prog E cx n9_64) := GE.seq_step (by kernel_rfl)
theorem n9_41s : codeB Try.prog E cx n9_41 st = thenS (codeB Try.prog E cx n9_42 st) (codeB Try.prog E cx n9_62) := GE.seq_step (by kernel_rfl)
theorem n9_39s : codeB Try.prog E cx n9_39 st = thenS (codeB Try.prog E cx n9_40 st) (codeB Try.prog E cx n9_41) := GE.seq_step (by kernel_rfl)
theorem n9_37s : codeB Try.prog E cx n9_37 st = thenS (codeB Try.prog E cx n9_38 st) (codeB Try.prog E cx n9_39) := GE.seq_step (by kernel_rfl)
theorem n9_36s : codeB Try.prog E cx n9_36 st = blockS 3 (codeB Try.prog E cx n9_37 st) st := GE.block_step (by kernel_rfl)
theorem n9_69s : codeB Try.prog E ⟨f, 242, b, ro⟩ n9_69 st = plainS (runOps Try.prog E b q9_69 (ops [true, true, true, true, true, false, true, false, false, true, true, false, false, true, true, false, false, true, true] Try.f9) st) := GE.region_step (id := 10) (GE.reg_of (by kernel_rfl)) (by kernel_rfl)
theorem n9_35s : codeB Try.prog E cx n9_35 st = thenS (codeB Try.prog E cx n9_36 st) (codeB Try.prog E cx n9_69) := GE.seq_step (by kernel_rfl)
theorem n9_29s : codeB Try.prog E cx n9_29 st = thenS (codeB Try.prog E cx n9_30 st) (codeB Try.prog E cx n9_35) := GE.seq_step (by kernel_rfl)
theorem n9_28k : LL.kp (⟨9, 242, b, ro⟩ : Cx).fn (4 * rid n9_29 + 3) = some ⟨[10, 11, 5, 7, 8, 9, 47, 48, 6], [⟨5, 0, 2, true⟩, ⟨6, 0, 1, false⟩]⟩ := by kernel_rfl
theorem n9_28s : codeB Try.prog LL ⟨9, 242, b, ro⟩ n9_28 st = headS b ⟨[10, 11, 5, 7, 8, 9, 47, 48, 6], [⟨5, 0, 2, true⟩, ⟨6, 0, 1, false⟩]⟩ st (lpB Try.prog LL ⟨9, 242, b, ro⟩ n9_28 n9_29) := GE.lpB_step (by kernel_rfl) (n9_28k b ro)
theorem n9_28g : LL.code ⟨9, 242, b, ro⟩ n9_28 st = headS b ⟨[10, 11, 5, 7, 8, 9, 47, 48, 6], [⟨5, 0, 2, true⟩, ⟨6, 0, 1, false⟩]⟩ st (lpB Try.prog LL ⟨9, 242, b, ro⟩ n9_28 n9_29) := GE.lpB_again (by kernel_rfl) (n9_28k b ro)
theorem n9_27s : codeB Try.prog E cx n9_27 st = blockS 2 (codeB Try.prog E cx n9_28 st) st := GE.block_step (by kernel_rfl)
theorem n9_25s : codeB Try.prog E cx n9_25 st = thenS (codeB Try.prog E cx n9_26 st) (codeB Try.prog E cx n9_27) := GE.seq_step (by kernel_rfl)
theorem n9_23s : codeB Try.prog E cx n9_23 st = thenS (codeB Try.prog E cx n9_24 st) (codeB Try.prog E cx n9_25) := GE.seq_step (by kernel_rfl)
theorem n9_22s : codeB Try.prog E cx n9_22 st = blockS 1 (codeB Try.prog E cx n9_23 st) st := GE.block_step (by kernel_rfl)
theorem n9_70s : codeB Try.prog E ⟨f, 242, b, ro⟩ n9_70 st = plainS (runOps Try.prog E b q9_70 (ops [true, true, true, true, true, false, true, false, false, true, true, true] Try.f9) st) := GE.region_step (id := 21) (GE.reg_of (by kernel_rfl)) (by kernel_rfl)
theorem n9_21s : codeB Try.prog E cx n9_21 st = thenS (codeB Try.prog E cx n9_22 st) (codeB Try.prog E cx n9_70) := GE.seq_step (by kernel_rfl)
theorem n9_17s : codeB Try.prog E cx n9_17 st = thenS (codeB Try.prog E cx n9_18 st) (codeB Try.prog E cx n9_21) := GE.seq_step (by kernel_rfl)
theorem n9_15s : codeB Try.prog E cx n9_15 st = thenS (codeB Try.prog E cx n9_16 st) (codeB Try.prog E cx n9_17) := GE.seq_step (by kernel_rfl)
theorem n9_14k : LL.kp (⟨9, 242, b, ro⟩ : Cx).fn (4 * rid n9_15 + 3) = some ⟨[5, 7, 8, 9, 47, 48, 6], [⟨5, 0, 2, true⟩, ⟨6, 0, 1, false⟩]⟩ := by kernel_rfl
theorem n9_14s : codeB Try.prog LL ⟨9, 242, b, ro⟩ n9_14 st = headS b ⟨[5, 7, 8, 9, 47, 48, 6], [⟨5, 0, 2, true⟩, ⟨6, 0, 1, false⟩]⟩ st (lpB Try.prog LL ⟨9, 242, b, ro⟩ n9_14 n9_15) := GE.lpB_step (by kernel_rfl) (n9_14k b ro)
theorem n9_14g : LL.code ⟨9, 242, b, ro⟩ n9_14 st = headS b ⟨[5, 7, 8, 9, 47, 48, 6], [⟨5, 0, 2, true⟩, ⟨6, 0, 1, false⟩]⟩ st (lpB Try.prog LL ⟨9, 242, b, ro⟩ n9_14 n9_15) := GE.lpB_again (by kernel_rfl) (n9_14k b ro)
theorem n9_13s : codeB Try.prog E cx n9_13 st = blockS 0 (codeB Try.prog E cx n9_14 st) st := GE.block_step (by kernel_rfl)
theorem n9_11s : codeB Try.prog E cx n9_11 st = thenS (codeB Try.prog E cx n9_12 st) (codeB Try.prog E cx n9_13) := GE.seq_step (by kernel_rfl)
theorem n9_72s : codeB Try.prog E ⟨f, 242, b, ro⟩ n9_72 st = plainS (runOps Try.prog E b q9_72 (ops [true, true, true, true, true, true, false] Try.f9) st) := GE.region_step (id := 22) (GE.reg_of (by kernel_rfl)) (by kernel_rfl)
theorem n9_74s : codeB Try.prog E ⟨f, 242, b, ro⟩ n9_74 st = plainS (runOps Try.prog E b q9_74 (ops [true, true, true, true, true, true, true, false] Try.f9) st) := GE.region_step (id := 23) (GE.reg_of (by kernel_rfl)) (by kernel_rfl)
theorem q9_77g2 : gd q9_77 2 = some 129 := by kernel_rfl
theorem q9_77g6 : gd q9_77 6 = some 133 := by kernel_rfl
theorem q9_77g10 : gd q9_77 10 = some 137 := by kernel_rfl
theorem n9_77s : codeB Try.prog E ⟨f, 242, b, ro⟩ n9_77 st = plainS (runOps Try.prog E b q9_77 (ops [true, true, true, true, true, true, true, true, false, false] Try.f9) st) := GE.region_step (id := 24) (GE.reg_of (by kernel_rfl)) (by kernel_rfl)
theorem n9_80s : codeB Try.prog E ⟨f, 242, b, ro⟩ n9_80 st = plainS (runOps Try.prog E b q9_80 (ops [true, true, true, true, true, true, true, true, false, true, false, false] Try.f9) st) := GE.region_step (id := 25) (GE.reg_of (by kernel_rfl)) (by kernel_rfl)
theorem n9_81s : codeB Try.prog LL ⟨9, 242, b, ro⟩ n9_81 st = normS b ⟨[4], []⟩ .ret st := GE.ret_step (by kernel_rfl) (by kernel_rfl)
theorem n9_79s : codeB Try.prog E cx n9_79 st = thenS (codeB Try.prog E cx n9_80 st) (codeB Try.prog E cx n9_81) := GE.seq_step (by kernel_rfl)
theorem n9_82s : codeB Try.prog E cx n9_82 st = some (.normal, st) := GE.skip_step (by kernel_rfl)
theorem n9_78s : codeB Try.prog E cx n9_78 st = condS (codeB Try.prog E cx n9_79) (codeB Try.prog E cx n9_82) (lk st.σ 140) st := GE.cond_step (c := .tmp 140) (by kernel_rfl)
theorem n9_76s : codeB Try.prog E cx n9_76 st = thenS (codeB Try.prog E cx n9_77 st) (codeB Try.prog E cx n9_78) := GE.seq_step (by kernel_rfl)
theorem n9_84s : codeB Try.prog E ⟨f, 242, b, ro⟩ n9_84 st = plainS (runOps Try.prog E b q9_84 (ops [true, true, true, true, true, true, true, true, true, false] Try.f9) st) := GE.region_step (id := 26) (GE.reg_of (by kernel_rfl)) (by kernel_rfl)
theorem n9_86s : codeB Try.prog E ⟨f, 242, b, ro⟩ n9_86 st = plainS (runOps Try.prog E b q9_86 (ops [true, true, true, true, true, true, true, true, true, true, false] Try.f9) st) := GE.region_step (id := 27) (GE.reg_of (by kernel_rfl)) (by kernel_rfl)
theorem n9_89s : codeB Try.prog E ⟨f, 242, b, ro⟩ n9_89 st = plainS (runOps Try.prog E b q9_89 (ops [true, true, true, true, true, true, true, true, true, true, true, false, false] Try.f9) st) := GE.region_step (id := 28) (GE.reg_of (by kernel_rfl)) (by kernel_rfl)
theorem q9_92g2 : gd q9_92 2 = some 160 := by kernel_rfl
theorem q9_92g6 : gd q9_92 6 = some 164 := by kernel_rfl
theorem n9_92s : codeB Try.prog E ⟨f, 242, b, ro⟩ n9_92 st = plainS (runOps Try.prog E b q9_92 (ops [true, true, true, true, true, true, true, true, true, true, true, false, true, false, false] Try.f9) st) := GE.region_step (id := 29) (GE.reg_of (by kernel_rfl)) (by kernel_rfl)
theorem n9_93s : codeB Try.prog LL ⟨9, 242, b, ro⟩ n9_93 st = normS b ⟨[4], []⟩ .ret st := GE.ret_step (by kernel_rfl) (by kernel_rfl)
theorem n9_91s : codeB Try.prog E cx n9_91 st = thenS (codeB Try.prog E cx n9_92 st) (codeB Try.prog E cx n9_93) := GE.seq_step (by kernel_rfl)
theorem n9_94s : codeB Try.prog E cx n9_94 st = some (.normal, st) := GE.skip_step (by kernel_rfl)
theorem n9_90s : codeB Try.prog E cx n9_90 st = condS (codeB Try.prog E cx n9_91) (codeB Try.prog E cx n9_94) (lk st.σ 157) st := GE.cond_step (c := .tmp 157) (by kernel_rfl)
theorem n9_88s : codeB Try.prog E cx n9_88 st = thenS (codeB Try.prog E cx n9_89 st) (codeB Try.prog E cx n9_90) := GE.seq_step (by kernel_rfl)
theorem n9_96s : codeB Try.prog E ⟨f, 242, b, ro⟩ n9_96 st = plainS (runOps Try.prog E b q9_96 (ops [true, true, true, true, true, true, true, true, true, true, true, true, false] Try.f9) st) := GE.region_step (id := 30) (GE.reg_of (by kernel_rfl)) (by kernel_rfl)
theorem n9_99s : codeB Try.prog E ⟨f, 242, b, ro⟩ n9_99 st = plainS (runOps Try.prog E b q9_99 (ops [true, true, true, true, true, true, true, true, true, true, true, true, true, false, false] Try.f9) st) := GE.region_step (id := 31) (GE.reg_of (by kernel_rfl)) (by kernel_rfl)
theorem n9_103s : codeB Try.prog E ⟨f, 242, b, ro⟩ n9_103 st = plainS (runOps Try.prog E b q9_103 (ops [true, true, true, true, true, true, true, true, true, true, true, true, true, false, true, false, false, false] Try.f9) st) := GE.region_step (id := 32) (GE.reg_of (by kernel_rfl)) (by kernel_rfl)
theorem n9_106s : codeB Try.prog E cx n9_106 st = some (.normal, st) := GE.skip_step (by kernel_rfl)
theorem n9_107s : codeB Try.prog LL ⟨9, 242, b, ro⟩ n9_107 st = normS b ⟨[7, 18, 20, 21, 22, 23], []⟩ (.exit 6) st := GE.exit_step (by kernel_rfl) (by kernel_rfl)
theorem n9_105s : codeB Try.prog E cx n9_105 st = condS (codeB Try.prog E cx n9_106) (codeB Try.prog E cx n9_107) (lk st.σ 170) st := GE.cond_step (c := .tmp 170) (by kernel_rfl)
theorem n9_111s : codeB Try.prog E ⟨f, 242, b, ro⟩ n9_111 st = plainS (runOps Try.prog E b q9_111 (ops [true, true, true, true, true, true, true, true, true, true, true, true, true, false, true, false, false, true, true, false, false, false] Try.f9) st) := GE.region_step (id := 33) (GE.reg_of (by kernel_rfl)) (by kernel_rfl)
theorem n9_113s : codeB Try.prog E ⟨f, 242, b, ro⟩ n9_113 st = plainS (runOps Try.prog E b q9_113 (ops [true, true, true, true, true, true, true, true, true, true, true, true, true, false, true, false, false, true, true, false, false, true, false] Try.f9) st) := GE.region_step (id := 34) (GE.reg_of (by kernel_rfl)) (by kernel_rfl)
theorem n9_117s : codeB Try.prog E ⟨f, 242, b, ro⟩ n9_117 st = plainS (runOps Try.prog E b q9_117 (ops [true, true, true, true, true, true, true, true, true, true, true, true, true, false, true, false, false, true, true, false, false, true, true, false, false, false] Try.f9) st) := GE.region_step (id := 35) (GE.reg_of (by kernel_rfl)) (by kernel_rfl)
theorem n9_120s : codeB Try.prog E cx n9_120 st = some (.normal, st) := GE.skip_step (by kernel_rfl)
theorem n9_121s : codeB Try.prog LL ⟨9, 242, b, ro⟩ n9_121 st = normS b ⟨[7, 8, 9, 18, 20, 21, 22, 23, 168, 169, 167], [⟨167, 0, 1, false⟩]⟩ (.exit 8) st := GE.exit_step (by kernel_rfl) (by kernel_rfl)
theorem n9_119s : codeB Try.prog E cx n9_119 st = condS (codeB Try.prog E cx n9_120) (codeB Try.prog E cx n9_121) (lk st.σ 176) st := GE.cond_step (c := .tmp 176) (by kernel_rfl)
theorem n9_125s : codeB Try.prog E ⟨f, 242, b, ro⟩ n9_125 st = plainS (runOps Try.prog E b q9_125 (ops [true, true, true, true, true, true, true, true, true, true, true, true, true, false, true, false, false, true, true, false, false, true, true, false, false, true, true, false, false, false] Try.f9) st) := GE.region_step (id := 36) (GE.reg_of (by kernel_rfl)) (by kernel_rfl)
theorem n9_128s : codeB Try.prog E ⟨f, 242, b, ro⟩ n9_128 st = plainS (runOps Try.prog E b q9_128 (ops [true, true, true, true, true, true, true, true, true, true, true, true, true, false, true, false, false, true, true, false, false, true, true, false, false, true, true, false, false, true, false, false] Try.f9) st) := GE.region_step (id := 37) (GE.reg_of (by kernel_rfl)) (by kernel_rfl)
theorem n9_130s : codeB Try.prog E ⟨f, 242, b, ro⟩ n9_130 st = plainS (runOps Try.prog E b q9_130 (ops [true, true, true, true, true, true, true, true, true, true, true, true, true, false, true, false, false, true, true, false, false, true, true, false, false, true, true, false, false, true, false, true, false] Try.f9) st) := GE.region_step (id := 38) (GE.reg_of (by kernel_rfl)) (by kernel_rfl)
theorem n9_131s : codeB Try.prog E cx n9_131 st = some (.normal, st) := GE.skip_step (by kernel_rfl)
theorem n9_129s : codeB Try.prog E cx n9_129 st = condS (codeB Try.prog E cx n9_130) (codeB Try.prog E cx n9_131) (lk st.σ 181) st := GE.cond_step (c := .tmp 181) (by kernel_rfl)
theorem n9_127s : codeB Try.prog E cx n9_127 st = thenS (codeB Try.prog E cx n9_128 st) (codeB Try.prog E cx n9_129) := GE.seq_step (by kernel_rfl)
theorem q9_133g3 : gd q9_133 3 = some 187 := by kernel_rfl
theorem n9_133s : codeB Try.prog E ⟨f, 242, b, ro⟩ n9_133 st = plainS (runOps Try.prog E b q9_133 (ops [true, true, true, true, true, true, true, true, true, true, true, true, true, false, true, false, false, true, true, false, false, true, true, false, false, true, true, false, false, true, true, false] Try.f9) st) := GE.region_step (id := 39) (GE.reg_of (by kernel_rfl)) (by kernel_rfl)
theorem n9_135s : codeB Try.prog LL ⟨9, 242, b, ro⟩ n9_135 st = normS b ⟨[7, 8, 9, 18, 20, 21, 22, 23, 168, 169, 167], [⟨167, 0, 1, false⟩]⟩ (.exit 8) st := GE.exit_step (by kernel_rfl) (by kernel_rfl)
theorem n9_136s : codeB Try.prog E cx n9_136 st = some (.normal, st) := GE.skip_step (by kernel_rfl)
theorem n9_134s : codeB Try.prog E cx n9_134 st = condS (codeB Try.prog E cx n9_135) (codeB Try.prog E cx n9_136) (lk st.σ 191) st := GE.cond_step (c := .tmp 191) (by kernel_rfl)
theorem n9_132s : codeB Try.prog E cx n9_132 st = thenS (codeB Try.prog E cx n9_133 st) (codeB Try.prog E cx n9_134) := GE.seq_step (by kernel_rfl)
theorem n9_126s : codeB Try.prog E cx n9_126 st = thenS (codeB Try.prog E cx n9_127 st) (codeB Try.prog E cx n9_132) := GE.seq_step (by kernel_rfl)
theorem n9_124s : codeB Try.prog E cx n9_124 st = thenS (codeB Try.prog E cx n9_125 st) (codeB Try.prog E cx n9_126) := GE.seq_step (by kernel_rfl)
theorem n9_123s : codeB Try.prog E cx n9_123 st = blockS 9 (codeB Try.prog E cx n9_124 st) st := GE.block_step (by kernel_rfl)
theorem n9_137s : codeB Try.prog E ⟨f, 242, b, ro⟩ n9_137 st = plainS (runOps Try.prog E b q9_137 (ops [true, true, true, true, true, true, true, true, true, true, true, true, true, false, true, false, false, true, true, false, false, true, true, false, false, true, true, true] Try.f9) st) := GE.region_step (id := 40) (GE.reg_of (by kernel_rfl)) (by kernel_rfl)
theorem n9_122s : codeB Try.prog E cx n9_122 st = thenS (codeB Try.prog E cx n9_123 st) (codeB Try.prog E cx n9_137) := GE.seq_step (by kernel_rfl)
theorem n9_118s : codeB Try.prog E cx n9_118 st = thenS (codeB Try.prog E cx n9_119 st) (codeB Try.prog E cx n9_122) := GE.seq_step (by kernel_rfl)
theorem n9_116s : codeB Try.prog E cx n9_116 st = thenS (codeB Try.prog E cx n9_117 st) (codeB Try.prog E cx n9_118) := GE.seq_step (by kernel_rfl)
theorem n9_115k : LL.kp (⟨9, 242, b, ro⟩ : Cx).fn (4 * rid n9_116 + 3) = some ⟨[174, 175, 7, 8, 9, 18, 20, 21, 22, 23, 168, 169, 167, 173], [⟨173, 0, 1, true⟩, ⟨167, 0, 1, false⟩]⟩ := by kernel_rfl
theorem n9_115s : codeB Try.prog LL ⟨9, 242, b, ro⟩ n9_115 st = headS b ⟨[174, 175, 7, 8, 9, 18, 20, 21, 22, 23, 168, 169, 167, 173], [⟨173, 0, 1, true⟩, ⟨167, 0, 1, false⟩]⟩ st (lpB Try.prog LL ⟨9, 242, b, ro⟩ n9_115 n9_116) := GE.lpB_step (by kernel_rfl) (n9_115k b ro)
theorem n9_115g : LL.code ⟨9, 242, b, ro⟩ n9_115 st = headS b ⟨[174, 175, 7, 8, 9, 18, 20, 21, 22, 23, 168, 169, 167, 173], [⟨173, 0, 1, true⟩, ⟨167, 0, 1, false⟩]⟩ st (lpB Try.prog LL ⟨9, 242, b, ro⟩ n9_115 n9_116) := GE.lpB_again (by kernel_rfl) (n9_115k b ro)
theorem n9_114s : codeB Try.prog E cx n9_114 st = blockS 8 (codeB Try.prog E cx n9_115 st) st := GE.block_step (by kernel_rfl)
theorem n9_112s : codeB Try.prog E cx n9_112 st = thenS (codeB Try.prog E cx n9_113 st) (codeB Try.prog E cx n9_114) := GE.seq_step (by kernel_rfl)
theorem n9_110s : codeB Try.prog E cx n9_110 st = thenS (codeB Try.prog E cx n9_111 st) (codeB Try.prog E cx n9_112) := GE.seq_step (by kernel_rfl)
theorem n9_109s : codeB Try.prog E cx n9_109 st = blockS 7 (codeB Try.prog E cx n9_110 st) st := GE.block_step (by kernel_rfl)
theorem n9_138s : codeB Try.prog E ⟨f, 242, b, ro⟩ n9_138 st = plainS (runOps Try.prog E b q9_138 (ops [true, true, true, true, true, true, true, true, true, true, true, true, true, false, true, false, false, true, true, true] Try.f9) st) := GE.region_step (id := 41) (GE.reg_of (by kernel_rfl)) (by kernel_rfl)
theorem n9_108s : codeB Try.prog E cx n9_108 st = thenS (codeB Try.prog E cx n9_109 st) (codeB Try.prog E cx n9_138) := GE.seq_step (by kernel_rfl)
theorem n9_104s : codeB Try.prog E cx n9_104 st = thenS (codeB Try.prog E cx n9_105 st) (codeB Try.prog E cx n9_108) := GE.seq_step (by kernel_rfl)
theorem n9_102s : codeB Try.prog E cx n9_102 st = thenS (codeB Try.prog E cx n9_103 st) (codeB Try.prog E cx n9_104) := GE.seq_step (by kernel_rfl)
theorem n9_101k : LL.kp (⟨9, 242, b, ro⟩ : Cx).fn (4 * rid n9_102 + 3) = some ⟨[7, 8, 9, 18, 20, 21, 22, 23, 168, 169, 167], [⟨167, 0, 1, false⟩]⟩ := by kernel_rfl
theorem n9_101s : codeB Try.prog LL ⟨9, 242, b, ro⟩ n9_101 st = headS b ⟨[7, 8, 9, 18, 20, 21, 22, 23, 168, 169, 167], [⟨167, 0, 1, false⟩]⟩ st (lpB Try.prog LL ⟨9, 242, b, ro⟩ n9_101 n9_102) := GE.lpB_step (by kernel_rfl) (n9_101k b ro)
theorem n9_101g : LL.code ⟨9, 242, b, ro⟩ n9_101 st = headS b ⟨[7, 8, 9, 18, 20, 21, 22, 23, 168, 169, 167], [⟨167, 0, 1, false⟩]⟩ st (lpB Try.prog LL ⟨9, 242, b, ro⟩ n9_101 n9_102) := GE.lpB_again (by kernel_rfl) (n9_101k b ro)
theorem n9_100s : codeB Try.prog E cx n9_100 st = blockS 6 (codeB Try.prog E cx n9_101 st) st := GE.block_step (by kernel_rfl)
theorem n9_98s : codeB Try.prog E cx n9_98 st = thenS (codeB Try.prog E cx n9_99 st) (codeB Try.prog E cx n9_100) := GE.seq_step (by kernel_rfl)
theorem q9_140g2 : gd q9_140 2 = some 196 := by kernel_rfl
theorem q9_140g6 : gd q9_140 6 = some 200 := by kernel_rfl
theorem q9_140g11 : gd q9_140 11 = some 205 := by kernel_rfl
theorem q9_140g17 : gd q9_140 17 = some 211 := by kernel_rfl
theorem q9_140g28 : gd q9_140 28 = some 222 := by kernel_rfl
theorem q9_140g35 : gd q9_140 35 = some 229 := by kernel_rfl
theorem q9_140g45 : gd q9_140 45 = some 239 := by kernel_rfl
theorem n9_140s : codeB Try.prog E ⟨f, 242, b, ro⟩ n9_140 st = plainS (runOps Try.prog E b q9_140 (ops [true, true, true, true, true, true, true, true, true, true, true, true, true, true, false] Try.f9) st) := GE.region_step (id := 42) (GE.reg_of (by kernel_rfl)) (by kernel_rfl)
theorem n9_141s : codeB Try.prog LL ⟨9, 242, b, ro⟩ n9_141 st = normS b ⟨[4], []⟩ .ret st := GE.ret_step (by kernel_rfl) (by kernel_rfl)
theorem n9_139s : codeB Try.prog E cx n9_139 st = thenS (codeB Try.prog E cx n9_140 st) (codeB Try.prog E cx n9_141) := GE.seq_step (by kernel_rfl)
theorem n9_97s : codeB Try.prog E cx n9_97 st = thenS (codeB Try.prog E cx n9_98 st) (codeB Try.prog E cx n9_139) := GE.seq_step (by kernel_rfl)
theorem n9_95s : codeB Try.prog E cx n9_95 st = thenS (codeB Try.prog E cx n9_96 st) (codeB Try.prog E cx n9_97) := GE.seq_step (by kernel_rfl)
theorem n9_87s : codeB Try.prog E cx n9_87 st = thenS (codeB Try.prog E cx n9_88 st) (codeB Try.prog E cx n9_95) := GE.seq_step (by kernel_rfl)
theorem n9_85s : codeB Try.prog E cx n9_85 st = thenS (codeB Try.prog E cx n9_86 st) (codeB Try.prog E cx n9_87) := GE.seq_step (by kernel_rfl)
theorem n9_83s : codeB Try.prog E cx n9_83 st = thenS (codeB Try.prog E cx n9_84 st) (codeB Try.prog E cx n9_85) := GE.seq_step (by kernel_rfl)
theorem n9_75s : codeB Try.prog E cx n9_75 st = thenS (codeB Try.prog E cx n9_76 st) (codeB Try.prog E cx n9_83) := GE.seq_step (by kernel_rfl)
theorem n9_73s : codeB Try.prog E cx n9_73 st = thenS (codeB Try.prog E cx n9_74 st) (codeB Try.prog E cx n9_75) := GE.seq_step (by kernel_rfl)
theorem n9_71s : codeB Try.prog E cx n9_71 st = thenS (codeB Try.prog E cx n9_72 st) (codeB Try.prog E cx n9_73) := GE.seq_step (by kernel_rfl)
theorem n9_10s : codeB Try.prog E cx n9_10 st = thenS (codeB Try.prog E cx n9_11 st) (codeB Try.prog E cx n9_71) := GE.seq_step (by kernel_rfl)
theorem n9_8s : codeB Try.prog E cx n9_8 st = thenS (codeB Try.prog E cx n9_9 st) (codeB Try.prog E cx n9_10) := GE.seq_step (by kernel_rfl)
theorem n9_6s : codeB Try.prog E cx n9_6 st = thenS (codeB Try.prog E cx n9_7 st) (codeB Try.prog E cx n9_8) := GE.seq_step (by kernel_rfl)
theorem n9_4s : codeB Try.prog E cx n9_4 st = thenS (codeB Try.prog E cx n9_5 st) (codeB Try.prog E cx n9_6) := GE.seq_step (by kernel_rfl)
theorem n9_2s : codeB Try.prog E cx n9_2 st = thenS (codeB Try.prog E cx n9_3 st) (codeB Try.prog E cx n9_4) := GE.seq_step (by kernel_rfl)
theorem n9_0s : codeB Try.prog E cx n9_0 st = thenS (codeB Try.prog E cx n9_1 st) (codeB Try.prog E cx n9_2) := GE.seq_step (by kernel_rfl)
noncomputable def n29_0 : Code := bodyOf Try.f29
noncomputable def n29_1 : Code := cl n29_0
noncomputable def q29_1 : List Oper := opsOf n29_1
noncomputable def n29_2 : Code := cr n29_0
noncomputable def n29_3 : Code := cl n29_2
noncomputable def q29_3 : List Oper := opsOf n29_3
noncomputable def n29_4 : Code := cr n29_2
noncomputable def n29_5 : Code := cl n29_4
noncomputable def n29_6 : Code := cl n29_5
noncomputable def n29_7 : Code := cl n29_6
noncomputable def q29_7 : List Oper := opsOf n29_7
noncomputable def n29_8 : Code := cr n29_6
noncomputable def n29_9 : Code := cl n29_8
noncomputable def n29_10 : Code := cl n29_9
noncomputable def q29_10 : List Oper := opsOf n29_10
noncomputable def n29_11 : Code := cr n29_9
noncomputable def n29_12 : Code := cr n29_8
noncomputable def n29_13 : Code := cl n29_12
noncomputable def q29_13 : List Oper := opsOf n29_13
noncomputable def n29_14 : Code := cr n29_12
noncomputable def n29_15 : Code := cl n29_14
noncomputable def n29_16 : Code := cl n29_15
noncomputable def q29_16 : List Oper := opsOf n29_16
noncomputable def n29_17 : Code := cr n29_15
noncomputable def n29_18 : Code := cr n29_14
noncomputable def n29_19 : Code := cr n29_4
noncomputable def n29_20 : Code := cl n29_19
noncomputable def q29_20 : List Oper := opsOf n29_20
noncomputable def n29_21 : Code := cr n29_19
theorem body29 : Try.f29.body = some n29_0 := by kernel_rfl
theorem run29 (E : Ev) (args : List Value) (h : List Blk) (hl : args.length ≤ 27) : runB Try.prog E 29 args h = endS Try.prog [.tmp 4, .tmp 5] h.length (codeB Try.prog E ⟨29, 27, h.length, none⟩ n29_0 ⟨enumT 0 args, h, []⟩) := GE.run_step Try.func29 body29 (by kernel_rfl) (by decide) (by kernel_rfl) hl
theorem n29_1s : codeB Try.prog E ⟨f, 27, b, ro⟩ n29_1 st = plainS (runOps Try.prog E b q29_1 (ops [false] Try.f29) st) := GE.region_step (id := 0) (GE.reg_of (by kernel_rfl)) (by kernel_rfl)
theorem n29_3s : codeB Try.prog E ⟨f, 27, b, ro⟩ n29_3 st = plainS (runOps Try.prog E b q29_3 (ops [true, false] Try.f29) st) := GE.region_step (id := 1) (GE.reg_of (by kernel_rfl)) (by kernel_rfl)
theorem n29_7s : codeB Try.prog E ⟨f, 27, b, ro⟩ n29_7 st = plainS (runOps Try.prog E b q29_7 (ops [true, true, false, false, false] Try.f29) st) := GE.region_step (id := 2) (GE.reg_of (by kernel_rfl)) (by kernel_rfl)
theorem n29_10s : codeB Try.prog E ⟨f, 27, b, ro⟩ n29_10 st = plainS (runOps Try.prog E b q29_10 (ops [true, true, false, false, true, false, false] Try.f29) st) := GE.region_step (id := 3) (GE.reg_of (by kernel_rfl)) (by kernel_rfl)
theorem n29_11s : codeB Try.prog LL ⟨29, 27, b, ro⟩ n29_11 st = normS b ⟨[4, 5], []⟩ .ret st := GE.ret_step (by kernel_rfl) (by kernel_rfl)
theorem n29_9s : codeB Try.prog E cx n29_9 st = thenS (codeB Try.prog E cx n29_10 st) (codeB Try.prog E cx n29_11) := GE.seq_step (by kernel_rfl)
theorem n29_13s : codeB Try.prog E ⟨f, 27, b, ro⟩ n29_13 st = plainS (runOps Try.prog E b q29_13 (ops [true, true, false, false, true, true, false] Try.f29) st) := GE.region_step (id := 4) (GE.reg_of (by kernel_rfl)) (by kernel_rfl)
theorem n29_16s : codeB Try.prog E ⟨f, 27, b, ro⟩ n29_16 st = plainS (runOps Try.prog E b q29_16 (ops [true, true, false, false, true, true, true, false, false] Try.f29) st) := GE.region_step (id := 5) (GE.reg_of (by kernel_rfl)) (by kernel_rfl)
theorem n29_17s : codeB Try.prog LL ⟨29, 27, b, ro⟩ n29_17 st = normS b ⟨[4, 5], []⟩ .ret st := GE.ret_step (by kernel_rfl) (by kernel_rfl)
theorem n29_15s : codeB Try.prog E cx n29_15 st = thenS (codeB Try.prog E cx n29_16 st) (codeB Try.prog E cx n29_17) := GE.seq_step (by kernel_rfl)
theorem n29_18s : codeB Try.prog E cx n29_18 st = some (.normal, st) := GE.skip_step (by kernel_rfl)
theorem n29_14s : codeB Try.prog E cx n29_14 st = condS (codeB Try.prog E cx n29_15) (codeB Try.prog E cx n29_18) (lk st.σ 17) st := GE.cond_step (c := .tmp 17) (by kernel_rfl)
theorem n29_12s : codeB Try.prog E cx n29_12 st = thenS (codeB Try.prog E cx n29_13 st) (codeB Try.prog E cx n29_14) := GE.seq_step (by kernel_rfl)
theorem n29_8s : codeB Try.prog E cx n29_8 st = condS (codeB Try.prog E cx n29_9) (codeB Try.prog E cx n29_12) (lk st.σ 13) st := GE.cond_step (c := .tmp 13) (by kernel_rfl)
theorem n29_6s : codeB Try.prog E cx n29_6 st = thenS (codeB Try.prog E cx n29_7 st) (codeB Try.prog E cx n29_8) := GE.seq_step (by kernel_rfl)
theorem n29_5s : codeB Try.prog E cx n29_5 st = blockS 0 (codeB Try.prog E cx n29_6 st) st := GE.block_step (by kernel_rfl)
theorem n29_20s : codeB Try.prog E ⟨f, 27, b, ro⟩ n29_20 st = plainS (runOps Try.prog E b q29_20 (ops [true, true, true, false] Try.f29) st) := GE.region_step (id := 6) (GE.reg_of (by kernel_rfl)) (by kernel_rfl)
theorem n29_21s : codeB Try.prog LL ⟨29, 27, b, ro⟩ n29_21 st = normS b ⟨[4, 5], []⟩ .ret st := GE.ret_step (by kernel_rfl) (by kernel_rfl)
theorem n29_19s : codeB Try.prog E cx n29_19 st = thenS (codeB Try.prog E cx n29_20 st) (codeB Try.prog E cx n29_21) := GE.seq_step (by kernel_rfl)
theorem n29_4s : codeB Try.prog E cx n29_4 st = thenS (codeB Try.prog E cx n29_5 st) (codeB Try.prog E cx n29_19) := GE.seq_step (by kernel_rfl)
theorem n29_2s : codeB Try.prog E cx n29_2 st = thenS (codeB Try.prog E cx n29_3 st) (codeB Try.prog E cx n29_4) := GE.seq_step (by kernel_rfl)
theorem n29_0s : codeB Try.prog E cx n29_0 st = thenS (codeB Try.prog E cx n29_1 st) (codeB Try.prog E cx n29_2) := GE.seq_step (by kernel_rfl)
noncomputable def n31_0 : Code := bodyOf Try.f31
noncomputable def n31_1 : Code := cl n31_0
noncomputable def q31_1 : List Oper := opsOf n31_1
noncomputable def n31_2 : Code := cr n31_0
noncomputable def n31_3 : Code := cl n31_2
noncomputable def q31_3 : List Oper := opsOf n31_3
noncomputable def n31_4 : Code := cr n31_2
noncomputable def n31_5 : Code := cl n31_4
noncomputable def n31_6 : Code := cl n31_5
noncomputable def n31_7 : Code := cl n31_6
noncomputable def q31_7 : List Oper := opsOf n31_7
noncomputable def n31_8 : Code := cr n31_6
noncomputable def n31_9 : Code := cl n31_8
noncomputable def n31_10 : Code := cl n31_9
noncomputable def q31_10 : List Oper := opsOf n31_10
noncomputable def n31_11 : Code := cr n31_9
noncomputable def n31_12 : Code := cr n31_8
noncomputable def n31_13 : Code := cl n31_12
noncomputable def q31_13 : List Oper := opsOf n31_13
noncomputable def n31_14 : Code := cr n31_12
noncomputable def n31_15 : Code := cl n31_14
noncomputable def n31_16 : Code := cl n31_15
noncomputable def q31_16 : List Oper := opsOf n31_16
noncomputable def n31_17 : Code := cr n31_15
noncomputable def n31_18 : Code := cr n31_14
noncomputable def n31_19 : Code := cl n31_18
noncomputable def q31_19 : List Oper := opsOf n31_19
noncomputable def n31_20 : Code := cr n31_18
noncomputable def n31_21 : Code := cl n31_20
noncomputable def n31_22 : Code := cl n31_21
noncomputable def q31_22 : List Oper := opsOf n31_22
noncomputable def n31_23 : Code := cr n31_21
noncomputable def n31_24 : Code := cr n31_20
noncomputable def n31_25 : Code := cr n31_4
noncomputable def n31_26 : Code := cl n31_25
noncomputable def q31_26 : List Oper := opsOf n31_26
noncomputable def n31_27 : Code := cr n31_25
noncomputable def n31_28 : Code := cl n31_27
noncomputable def n31_29 : Code := cl n31_28
noncomputable def q31_29 : List Oper := opsOf n31_29
noncomputable def n31_30 : Code := cr n31_28
noncomputable def n31_31 : Code := cl n31_30
noncomputable def n31_32 : Code := cl n31_31
noncomputable def n31_33 : Code := cl n31_32
noncomputable def q31_33 : List Oper := opsOf n31_33
noncomputable def n31_34 : Code := cr n31_32
noncomputable def n31_35 : Code := cl n31_34
noncomputable def n31_36 : Code := cl n31_35
noncomputable def n31_37 : Code := cr n31_35
noncomputable def n31_38 : Code := cr n31_34
noncomputable def n31_39 : Code := cl n31_38
noncomputable def n31_40 : Code := cl n31_39
noncomputable def n31_41 : Code := cl n31_40
noncomputable def q31_41 : List Oper := opsOf n31_41
noncomputable def n31_42 : Code := cr n31_40
noncomputable def n31_43 : Code := cl n31_42
noncomputable def q31_43 : List Oper := opsOf n31_43
noncomputable def n31_44 : Code := cr n31_42
noncomputable def n31_45 : Code := cl n31_44
noncomputable def q31_45 : List Oper := opsOf n31_45
noncomputable def n31_46 : Code := cr n31_44
noncomputable def n31_47 : Code := cr n31_38
noncomputable def q31_47 : List Oper := opsOf n31_47
noncomputable def n31_48 : Code := cr n31_27
noncomputable def n31_49 : Code := cl n31_48
noncomputable def q31_49 : List Oper := opsOf n31_49
noncomputable def n31_50 : Code := cr n31_48
theorem body31 : Try.f31.body = some n31_0 := by kernel_rfl
theorem run31 (E : Ev) (args : List Value) (h : List Blk) (hl : args.length ≤ 79) : runB Try.prog E 31 args h = endS Try.prog [.cell 6 42, .tmp 7] h.length (codeB Try.prog E ⟨31, 79, h.length, none⟩ n31_0 ⟨enumT 0 args, h, []⟩) := GE.run_step Try.func31 body31 (by kernel_rfl) (by decide) (by kernel_rfl) hl
theorem n31_1s : codeB Try.prog E ⟨f, 79, b, ro⟩ n31_1 st = plainS (runOps Try.prog E b q31_1 (ops [false] Try.f31) st) := GE.region_step (id := 0) (GE.reg_of (by kernel_rfl)) (by kernel_rfl)
theorem n31_3s : codeB Try.prog E ⟨f, 79, b, ro⟩ n31_3 st = plainS (runOps Try.prog E b q31_3 (ops [true, false] Try.f31) st) := GE.region_step (id := 1) (GE.reg_of (by kernel_rfl)) (by kernel_rfl)
theorem n31_7s : codeB Try.prog E ⟨f, 79, b, ro⟩ n31_7 st = plainS (runOps Try.prog E b q31_7 (ops [true, true, false, false, false] Try.f31) st) := GE.region_step (id := 2) (GE.reg_of (by kernel_rfl)) (by kernel_rfl)
theorem n31_10s : codeB Try.prog E ⟨f, 79, b, ro⟩ n31_10 st = plainS (runOps Try.prog E b q31_10 (ops [true, true, false, false, true, false, false] Try.f31) st) := GE.region_step (id := 3) (GE.reg_of (by kernel_rfl)) (by kernel_rfl)
theorem n31_11s : codeB Try.prog LL ⟨31, 79, b, ro⟩ n31_11 st = normS b ⟨[6, 7], []⟩ .ret st := GE.ret_step (by kernel_rfl) (by kernel_rfl)
theorem n31_9s : codeB Try.prog E cx n31_9 st = thenS (codeB Try.prog E cx n31_10 st) (codeB Try.prog E cx n31_11) := GE.seq_step (by kernel_rfl)
theorem n31_13s : codeB Try.prog E ⟨f, 79, b, ro⟩ n31_13 st = plainS (runOps Try.prog E b q31_13 (ops [true, true, false, false, true, true, false] Try.f31) st) := GE.region_step (id := 4) (GE.reg_of (by kernel_rfl)) (by kernel_rfl)
theorem n31_16s : codeB Try.prog E ⟨f, 79, b, ro⟩ n31_16 st = plainS (runOps Try.prog E b q31_16 (ops [true, true, false, false, true, true, true, false, false] Try.f31) st) := GE.region_step (id := 5) (GE.reg_of (by kernel_rfl)) (by kernel_rfl)
theorem n31_17s : codeB Try.prog LL ⟨31, 79, b, ro⟩ n31_17 st = normS b ⟨[6, 7], []⟩ .ret st := GE.ret_step (by kernel_rfl) (by kernel_rfl)
theorem n31_15s : codeB Try.prog E cx n31_15 st = thenS (codeB Try.prog E cx n31_16 st) (codeB Try.prog E cx n31_17) := GE.seq_step (by kernel_rfl)
theorem n31_19s : codeB Try.prog E ⟨f, 79, b, ro⟩ n31_19 st = plainS (runOps Try.prog E b q31_19 (ops [true, true, false, false, true, true, true, true, false] Try.f31) st) := GE.region_step (id := 6) (GE.reg_of (by kernel_rfl)) (by kernel_rfl)
theorem n31_22s : codeB Try.prog E ⟨f, 79, b, ro⟩ n31_22 st = plainS (runOps Try.prog E b q31_22 (ops [true, true, false, false, true, true, true, true, true, false, false] Try.f31) st) := GE.region_step (id := 7) (GE.reg_of (by kernel_rfl)) (by kernel_rfl)
theorem n31_23s : codeB Try.prog LL ⟨31, 79, b, ro⟩ n31_23 st = normS b ⟨[6, 7], []⟩ .ret st := GE.ret_step (by kernel_rfl) (by kernel_rfl)
theorem n31_21s : codeB Try.prog E cx n31_21 st = thenS (codeB Try.prog E cx n31_22 st) (codeB Try.prog E cx n31_23) := GE.seq_step (by kernel_rfl)
theorem n31_24s : codeB Try.prog E cx n31_24 st = some (.normal, st) := GE.skip_step (by kernel_rfl)
theorem n31_20s : codeB Try.prog E cx n31_20 st = condS (codeB Try.prog E cx n31_21) (codeB Try.prog E cx n31_24) (lk st.σ 31) st := GE.cond_step (c := .tmp 31) (by kernel_rfl)
theorem n31_18s : codeB Try.prog E cx n31_18 st = thenS (codeB Try.prog E cx n31_19 st) (codeB Try.prog E cx n31_20) := GE.seq_step (by kernel_rfl)
theorem n31_14s : codeB Try.prog E cx n31_14 st = condS (codeB Try.prog E cx n31_15) (codeB Try.prog E cx n31_18) (lk st.σ 23) st := GE.cond_step (c := .tmp 23) (by kernel_rfl)
theorem n31_12s : codeB Try.prog E cx n31_12 st = thenS (codeB Try.prog E cx n31_13 st) (codeB Try.prog E cx n31_14) := GE.seq_step (by kernel_rfl)
theorem n31_8s : codeB Try.prog E cx n31_8 st = condS (codeB Try.prog E cx n31_9) (codeB Try.prog E cx n31_12) (lk st.σ 18) st := GE.cond_step (c := .tmp 18) (by kernel_rfl)
theorem n31_6s : codeB Try.prog E cx n31_6 st = thenS (codeB Try.prog E cx n31_7 st) (codeB Try.prog E cx n31_8) := GE.seq_step (by kernel_rfl)
theorem n31_5s : codeB Try.prog E cx n31_5 st = blockS 0 (codeB Try.prog E cx n31_6 st) st := GE.block_step (by kernel_rfl)
theorem n31_26s : codeB Try.prog E ⟨f, 79, b, ro⟩ n31_26 st = plainS (runOps Try.prog E b q31_26 (ops [true, true, true, false] Try.f31) st) := GE.region_step (id := 8) (GE.reg_of (by kernel_rfl)) (by kernel_rfl)
theorem n31_29s : codeB Try.prog E ⟨f, 79, b, ro⟩ n31_29 st = plainS (runOps Try.prog E b q31_29 (ops [true, true, true, true, false, false] Try.f31) st) := GE.region_step (id := 9) (GE.reg_of (by kernel_rfl)) (by kernel_rfl)
theorem n31_33s : codeB Try.prog E ⟨f, 79, b, ro⟩ n31_33 st = plainS (runOps Try.prog E b q31_33 (ops [true, true, true, true, false, true, false, false, false] Try.f31) st) := GE.region_step (id := 10) (GE.reg_of (by kernel_rfl)) (by kernel_rfl)
theorem n31_36s : codeB Try.prog E cx n31_36 st = some (.normal, st) := GE.skip_step (by kernel_rfl)
theorem n31_37s : codeB Try.prog LL ⟨31, 79, b, ro⟩ n31_37 st = normS b ⟨[6, 8, 10], []⟩ (.exit 1) st := GE.exit_step (by kernel_rfl) (by kernel_rfl)
theorem n31_35s : codeB Try.prog E cx n31_35 st = condS (codeB Try.prog E cx n31_36) (codeB Try.prog E cx n31_37) (lk st.σ 44) st := GE.cond_step (c := .tmp 44) (by kernel_rfl)
theorem n31_41s : codeB Try.prog E ⟨f, 79, b, ro⟩ n31_41 st = plainS (runOps Try.prog E b q31_41 (ops [true, true, true, true, false, true, false, false, true, true, false, false, false] Try.f31) st) := GE.region_step (id := 11) (GE.reg_of (by kernel_rfl)) (by kernel_rfl)
theorem n31_43s : codeB Try.prog E ⟨f, 79, b, ro⟩ n31_43 st = plainS (runOps Try.prog E b q31_43 (ops [true, true, true, true, false, true, false, false, true, true, false, false, true, false] Try.f31) st) := GE.region_step (id := 12) (GE.reg_of (by kernel_rfl)) (by kernel_rfl)
theorem n31_45s : codeB Try.prog E ⟨f, 79, b, ro⟩ n31_45 st = drawS [0, 0, 2, 6, 14, 0, 62, 0, 128, 384, 896, 0, 0, 6270, 16382, 32766, 65535, 131071] (runOpsF Try.prog E b q31_45 (ops [true, true, true, true, false, true, false, false, true, true, false, false, true, true, false] Try.f31) st) := GE.draw_step (id := 13) (GE.reg_of (by kernel_rfl)) (by kernel_rfl) (by kernel_rfl) (by kernel_rfl)
theorem n31_46s : codeB Try.prog E cx n31_46 st = some (.normal, st) := GE.skip_step (by kernel_rfl)
theorem n31_44s : codeB Try.prog E cx n31_44 st = condS (codeB Try.prog E cx n31_45) (codeB Try.prog E cx n31_46) (lk st.σ 53) st := GE.cond_step (c := .tmp 53) (by kernel_rfl)
theorem n31_42s : codeB Try.prog E cx n31_42 st = thenS (codeB Try.prog E cx n31_43 st) (codeB Try.prog E cx n31_44) := GE.seq_step (by kernel_rfl)
theorem n31_40s : codeB Try.prog E cx n31_40 st = thenS (codeB Try.prog E cx n31_41 st) (codeB Try.prog E cx n31_42) := GE.seq_step (by kernel_rfl)
theorem n31_39s : codeB Try.prog E cx n31_39 st = blockS 2 (codeB Try.prog E cx n31_40 st) st := GE.block_step (by kernel_rfl)
theorem n31_47s : codeB Try.prog E ⟨f, 79, b, ro⟩ n31_47 st = plainS (runOps Try.prog E b q31_47 (ops [true, true, true, true, false, true, false, false, true, true, true] Try.f31) st) := GE.region_step (id := 14) (GE.reg_of (by kernel_rfl)) (by kernel_rfl)
theorem n31_38s : codeB Try.prog E cx n31_38 st = thenS (codeB Try.prog E cx n31_39 st) (codeB Try.prog E cx n31_47) := GE.seq_step (by kernel_rfl)
theorem n31_34s : codeB Try.prog E cx n31_34 st = thenS (codeB Try.prog E cx n31_35 st) (codeB Try.prog E cx n31_38) := GE.seq_step (by kernel_rfl)
theorem n31_32s : codeB Try.prog E cx n31_32 st = thenS (codeB Try.prog E cx n31_33 st) (codeB Try.prog E cx n31_34) := GE.seq_step (by kernel_rfl)
theorem n31_31k : LL.kp (⟨31, 79, b, ro⟩ : Cx).fn (4 * rid n31_32 + 3) = some ⟨[1, 6, 8, 10, 41, 42, 43], [⟨41, 0, 1, true⟩]⟩ := by kernel_rfl
theorem n31_31s : codeB Try.prog LL ⟨31, 79, b, ro⟩ n31_31 st = headS b ⟨[1, 6, 8, 10, 41, 42, 43], [⟨41, 0, 1, true⟩]⟩ st (lpB Try.prog LL ⟨31, 79, b, ro⟩ n31_31 n31_32) := GE.lpB_step (by kernel_rfl) (n31_31k b ro)
theorem n31_31g : LL.code ⟨31, 79, b, ro⟩ n31_31 st = headS b ⟨[1, 6, 8, 10, 41, 42, 43], [⟨41, 0, 1, true⟩]⟩ st (lpB Try.prog LL ⟨31, 79, b, ro⟩ n31_31 n31_32) := GE.lpB_again (by kernel_rfl) (n31_31k b ro)
theorem n31_30s : codeB Try.prog E cx n31_30 st = blockS 1 (codeB Try.prog E cx n31_31 st) st := GE.block_step (by kernel_rfl)
theorem n31_28s : codeB Try.prog E cx n31_28 st = thenS (codeB Try.prog E cx n31_29 st) (codeB Try.prog E cx n31_30) := GE.seq_step (by kernel_rfl)
theorem n31_49s : codeB Try.prog E ⟨f, 79, b, ro⟩ n31_49 st = plainS (runOps Try.prog E b q31_49 (ops [true, true, true, true, true, false] Try.f31) st) := GE.region_step (id := 15) (GE.reg_of (by kernel_rfl)) (by kernel_rfl)
theorem n31_50s : codeB Try.prog LL ⟨31, 79, b, ro⟩ n31_50 st = normS b ⟨[6, 7], []⟩ .ret st := GE.ret_step (by kernel_rfl) (by kernel_rfl)
theorem n31_48s : codeB Try.prog E cx n31_48 st = thenS (codeB Try.prog E cx n31_49 st) (codeB Try.prog E cx n31_50) := GE.seq_step (by kernel_rfl)
theorem n31_27s : codeB Try.prog E cx n31_27 st = thenS (codeB Try.prog E cx n31_28 st) (codeB Try.prog E cx n31_48) := GE.seq_step (by kernel_rfl)
theorem n31_25s : codeB Try.prog E cx n31_25 st = thenS (codeB Try.prog E cx n31_26 st) (codeB Try.prog E cx n31_27) := GE.seq_step (by kernel_rfl)
theorem n31_4s : codeB Try.prog E cx n31_4 st = thenS (codeB Try.prog E cx n31_5 st) (codeB Try.prog E cx n31_25) := GE.seq_step (by kernel_rfl)
theorem n31_2s : codeB Try.prog E cx n31_2 st = thenS (codeB Try.prog E cx n31_3 st) (codeB Try.prog E cx n31_4) := GE.seq_step (by kernel_rfl)
theorem n31_0s : codeB Try.prog E cx n31_0 st = thenS (codeB Try.prog E cx n31_1 st) (codeB Try.prog E cx n31_2) := GE.seq_step (by kernel_rfl)
noncomputable def n33_0 : Code := bodyOf Try.f33
noncomputable def n33_1 : Code := cl n33_0
noncomputable def q33_1 : List Oper := opsOf n33_1
noncomputable def n33_2 : Code := cr n33_0
noncomputable def n33_3 : Code := cl n33_2
noncomputable def q33_3 : List Oper := opsOf n33_3
noncomputable def n33_4 : Code := cr n33_2
noncomputable def n33_5 : Code := cl n33_4
noncomputable def n33_6 : Code := cl n33_5
noncomputable def n33_7 : Code := cl n33_6
noncomputable def q33_7 : List Oper := opsOf n33_7
noncomputable def n33_8 : Code := cr n33_6
noncomputable def n33_9 : Code := cl n33_8
noncomputable def n33_10 : Code := cl n33_9
noncomputable def q33_10 : List Oper := opsOf n33_10
noncomputable def n33_11 : Code := cr n33_9
noncomputable def n33_12 : Code := cr n33_8
noncomputable def n33_13 : Code := cl n33_12
noncomputable def q33_13 : List Oper := opsOf n33_13
noncomputable def n33_14 : Code := cr n33_12
noncomputable def n33_15 : Code := cl n33_14
noncomputable def n33_16 : Code := cl n33_15
noncomputable def q33_16 : List Oper := opsOf n33_16
noncomputable def n33_17 : Code := cr n33_15
noncomputable def n33_18 : Code := cr n33_14
noncomputable def n33_19 : Code := cl n33_18
noncomputable def q33_19 : List Oper := opsOf n33_19
noncomputable def n33_20 : Code := cr n33_18
noncomputable def n33_21 : Code := cl n33_20
noncomputable def n33_22 : Code := cl n33_21
noncomputable def q33_22 : List Oper := opsOf n33_22
noncomputable def n33_23 : Code := cr n33_21
noncomputable def n33_24 : Code := cr n33_20
noncomputable def n33_25 : Code := cr n33_4
noncomputable def n33_26 : Code := cl n33_25
noncomputable def q33_26 : List Oper := opsOf n33_26
noncomputable def n33_27 : Code := cr n33_25
noncomputable def n33_28 : Code := cl n33_27
noncomputable def q33_28 : List Oper := opsOf n33_28
noncomputable def n33_29 : Code := cr n33_27
theorem body33 : Try.f33.body = some n33_0 := by kernel_rfl
theorem run33 (E : Ev) (args : List Value) (h : List Blk) (hl : args.length ≤ 56) : runB Try.prog E 33 args h = endS Try.prog [.cell 6 42, .tmp 7] h.length (codeB Try.prog E ⟨33, 56, h.length, none⟩ n33_0 ⟨enumT 0 args, h, []⟩) := GE.run_step Try.func33 body33 (by kernel_rfl) (by decide) (by kernel_rfl) hl
theorem n33_1s : codeB Try.prog E ⟨f, 56, b, ro⟩ n33_1 st = plainS (runOps Try.prog E b q33_1 (ops [false] Try.f33) st) := GE.region_step (id := 0) (GE.reg_of (by kernel_rfl)) (by kernel_rfl)
theorem n33_3s : codeB Try.prog E ⟨f, 56, b, ro⟩ n33_3 st = plainS (runOps Try.prog E b q33_3 (ops [true, false] Try.f33) st) := GE.region_step (id := 1) (GE.reg_of (by kernel_rfl)) (by kernel_rfl)
theorem n33_7s : codeB Try.prog E ⟨f, 56, b, ro⟩ n33_7 st = plainS (runOps Try.prog E b q33_7 (ops [true, true, false, false, false] Try.f33) st) := GE.region_step (id := 2) (GE.reg_of (by kernel_rfl)) (by kernel_rfl)
theorem n33_10s : codeB Try.prog E ⟨f, 56, b, ro⟩ n33_10 st = plainS (runOps Try.prog E b q33_10 (ops [true, true, false, false, true, false, false] Try.f33) st) := GE.region_step (id := 3) (GE.reg_of (by kernel_rfl)) (by kernel_rfl)
theorem n33_11s : codeB Try.prog LL ⟨33, 56, b, ro⟩ n33_11 st = normS b ⟨[6, 7], []⟩ .ret st := GE.ret_step (by kernel_rfl) (by kernel_rfl)
theorem n33_9s : codeB Try.prog E cx n33_9 st = thenS (codeB Try.prog E cx n33_10 st) (codeB Try.prog E cx n33_11) := GE.seq_step (by kernel_rfl)
theorem q33_13g6 : gd q33_13 6 = some 28 := by kernel_rfl
theorem n33_13s : codeB Try.prog E ⟨f, 56, b, ro⟩ n33_13 st = plainS (runOps Try.prog E b q33_13 (ops [true, true, false, false, true, true, false] Try.f33) st) := GE.region_step (id := 4) (GE.reg_of (by kernel_rfl)) (by kernel_rfl)
theorem n33_16s : codeB Try.prog E ⟨f, 56, b, ro⟩ n33_16 st = plainS (runOps Try.prog E b q33_16 (ops [true, true, false, false, true, true, true, false, false] Try.f33) st) := GE.region_step (id := 5) (GE.reg_of (by kernel_rfl)) (by kernel_rfl)
theorem n33_17s : codeB Try.prog LL ⟨33, 56, b, ro⟩ n33_17 st = normS b ⟨[6, 7], []⟩ .ret st := GE.ret_step (by kernel_rfl) (by kernel_rfl)
theorem n33_15s : codeB Try.prog E cx n33_15 st = thenS (codeB Try.prog E cx n33_16 st) (codeB Try.prog E cx n33_17) := GE.seq_step (by kernel_rfl)
theorem n33_19s : codeB Try.prog E ⟨f, 56, b, ro⟩ n33_19 st = plainS (runOps Try.prog E b q33_19 (ops [true, true, false, false, true, true, true, true, false] Try.f33) st) := GE.region_step (id := 6) (GE.reg_of (by kernel_rfl)) (by kernel_rfl)
theorem n33_22s : codeB Try.prog E ⟨f, 56, b, ro⟩ n33_22 st = plainS (runOps Try.prog E b q33_22 (ops [true, true, false, false, true, true, true, true, true, false, false] Try.f33) st) := GE.region_step (id := 7) (GE.reg_of (by kernel_rfl)) (by kernel_rfl)
theorem n33_23s : codeB Try.prog LL ⟨33, 56, b, ro⟩ n33_23 st = normS b ⟨[6, 7], []⟩ .ret st := GE.ret_step (by kernel_rfl) (by kernel_rfl)
theorem n33_21s : codeB Try.prog E cx n33_21 st = thenS (codeB Try.prog E cx n33_22 st) (codeB Try.prog E cx n33_23) := GE.seq_step (by kernel_rfl)
theorem n33_24s : codeB Try.prog E cx n33_24 st = some (.normal, st) := GE.skip_step (by kernel_rfl)
theorem n33_20s : codeB Try.prog E cx n33_20 st = condS (codeB Try.prog E cx n33_21) (codeB Try.prog E cx n33_24) (lk st.σ 37) st := GE.cond_step (c := .tmp 37) (by kernel_rfl)
theorem n33_18s : codeB Try.prog E cx n33_18 st = thenS (codeB Try.prog E cx n33_19 st) (codeB Try.prog E cx n33_20) := GE.seq_step (by kernel_rfl)
theorem n33_14s : codeB Try.prog E cx n33_14 st = condS (codeB Try.prog E cx n33_15) (codeB Try.prog E cx n33_18) (lk st.σ 21) st := GE.cond_step (c := .tmp 21) (by kernel_rfl)
theorem n33_12s : codeB Try.prog E cx n33_12 st = thenS (codeB Try.prog E cx n33_13 st) (codeB Try.prog E cx n33_14) := GE.seq_step (by kernel_rfl)
theorem n33_8s : codeB Try.prog E cx n33_8 st = condS (codeB Try.prog E cx n33_9) (codeB Try.prog E cx n33_12) (lk st.σ 16) st := GE.cond_step (c := .tmp 16) (by kernel_rfl)
theorem n33_6s : codeB Try.prog E cx n33_6 st = thenS (codeB Try.prog E cx n33_7 st) (codeB Try.prog E cx n33_8) := GE.seq_step (by kernel_rfl)
theorem n33_5s : codeB Try.prog E cx n33_5 st = blockS 0 (codeB Try.prog E cx n33_6 st) st := GE.block_step (by kernel_rfl)
theorem n33_26s : codeB Try.prog E ⟨f, 56, b, ro⟩ n33_26 st = plainS (runOps Try.prog E b q33_26 (ops [true, true, true, false] Try.f33) st) := GE.region_step (id := 8) (GE.reg_of (by kernel_rfl)) (by kernel_rfl)
theorem n33_28s : codeB Try.prog E ⟨f, 56, b, ro⟩ n33_28 st = drawS [0, 1, 3, 7, 15, 0, 32, 96, 224, 511, 1023, 2047, 4095] (runOpsF Try.prog E b q33_28 (ops [true, true, true, true, false] Try.f33) st) := GE.draw_step (id := 9) (GE.reg_of (by kernel_rfl)) (by kernel_rfl) (by kernel_rfl) (by kernel_rfl)
theorem n33_29s : codeB Try.prog LL ⟨33, 56, b, ro⟩ n33_29 st = normS b ⟨[6, 7], []⟩ .ret st := GE.ret_step (by kernel_rfl) (by kernel_rfl)
theorem n33_27s : codeB Try.prog E cx n33_27 st = thenS (codeB Try.prog E cx n33_28 st) (codeB Try.prog E cx n33_29) := GE.seq_step (by kernel_rfl)
theorem n33_25s : codeB Try.prog E cx n33_25 st = thenS (codeB Try.prog E cx n33_26 st) (codeB Try.prog E cx n33_27) := GE.seq_step (by kernel_rfl)
theorem n33_4s : codeB Try.prog E cx n33_4 st = thenS (codeB Try.prog E cx n33_5 st) (codeB Try.prog E cx n33_25) := GE.seq_step (by kernel_rfl)
theorem n33_2s : codeB Try.prog E cx n33_2 st = thenS (codeB Try.prog E cx n33_3 st) (codeB Try.prog E cx n33_4) := GE.seq_step (by kernel_rfl)
theorem n33_0s : codeB Try.prog E cx n33_0 st = thenS (codeB Try.prog E cx n33_1 st) (codeB Try.prog E cx n33_2) := GE.seq_step (by kernel_rfl)
noncomputable def n35_0 : Code := bodyOf Try.f35
noncomputable def n35_1 : Code := cl n35_0
noncomputable def q35_1 : List Oper := opsOf n35_1
noncomputable def n35_2 : Code := cr n35_0
noncomputable def n35_3 : Code := cl n35_2
noncomputable def q35_3 : List Oper := opsOf n35_3
noncomputable def n35_4 : Code := cr n35_2
noncomputable def n35_5 : Code := cl n35_4
noncomputable def n35_6 : Code := cl n35_5
noncomputable def q35_6 : List Oper := opsOf n35_6
noncomputable def n35_7 : Code := cr n35_5
noncomputable def n35_8 : Code := cl n35_7
noncomputable def n35_9 : Code := cl n35_8
noncomputable def n35_10 : Code := cl n35_9
noncomputable def n35_11 : Code := cl n35_10
noncomputable def q35_11 : List Oper := opsOf n35_11
noncomputable def n35_12 : Code := cr n35_10
noncomputable def n35_13 : Code := cl n35_12
noncomputable def n35_14 : Code := cr n35_12
noncomputable def n35_15 : Code := cr n35_9
noncomputable def n35_16 : Code := cl n35_15
noncomputable def n35_17 : Code := cl n35_16
noncomputable def n35_18 : Code := cl n35_17
noncomputable def q35_18 : List Oper := opsOf n35_18
noncomputable def n35_19 : Code := cr n35_17
noncomputable def q35_19 : List Oper := opsOf n35_19
noncomputable def n35_20 : Code := cr n35_15
noncomputable def q35_20 : List Oper := opsOf n35_20
noncomputable def n35_21 : Code := cr n35_4
noncomputable def n35_22 : Code := cl n35_21
noncomputable def n35_23 : Code := cl n35_22
noncomputable def q35_23 : List Oper := opsOf n35_23
noncomputable def n35_24 : Code := cr n35_22
noncomputable def n35_25 : Code := cl n35_24
noncomputable def q35_25 : List Oper := opsOf n35_25
noncomputable def n35_26 : Code := cr n35_24
noncomputable def n35_27 : Code := cr n35_21
noncomputable def n35_28 : Code := cl n35_27
noncomputable def q35_28 : List Oper := opsOf n35_28
noncomputable def n35_29 : Code := cr n35_27
theorem body35 : Try.f35.body = some n35_0 := by kernel_rfl
theorem run35 (E : Ev) (args : List Value) (h : List Blk) (hl : args.length ≤ 43) : runB Try.prog E 35 args h = endS Try.prog [.tmp 2] h.length (codeB Try.prog E ⟨35, 43, h.length, none⟩ n35_0 ⟨enumT 0 args, h, []⟩) := GE.run_step Try.func35 body35 (by kernel_rfl) (by decide) (by kernel_rfl) hl
theorem n35_1s : codeB Try.prog E ⟨f, 43, b, ro⟩ n35_1 st = plainS (runOps Try.prog E b q35_1 (ops [false] Try.f35) st) := GE.region_step (id := 0) (GE.reg_of (by kernel_rfl)) (by kernel_rfl)
theorem n35_3s : codeB Try.prog E ⟨f, 43, b, ro⟩ n35_3 st = plainS (runOps Try.prog E b q35_3 (ops [true, false] Try.f35) st) := GE.region_step (id := 1) (GE.reg_of (by kernel_rfl)) (by kernel_rfl)
theorem n35_6s : codeB Try.prog E ⟨f, 43, b, ro⟩ n35_6 st = plainS (runOps Try.prog E b q35_6 (ops [true, true, false, false] Try.f35) st) := GE.region_step (id := 2) (GE.reg_of (by kernel_rfl)) (by kernel_rfl)
theorem q35_11g4 : gd q35_11 4 = some 10 := by kernel_rfl
theorem n35_11s : codeB Try.prog E ⟨f, 43, b, ro⟩ n35_11 st = plainS (runOps Try.prog E b q35_11 (ops [true, true, false, true, false, false, false, false] Try.f35) st) := GE.region_step (id := 3) (GE.reg_of (by kernel_rfl)) (by kernel_rfl)
theorem n35_13s : codeB Try.prog E cx n35_13 st = some (.normal, st) := GE.skip_step (by kernel_rfl)
theorem n35_14s : codeB Try.prog LL ⟨35, 43, b, ro⟩ n35_14 st = normS b ⟨[3], [⟨3, 0, 2, true⟩]⟩ (.exit 0) st := GE.exit_step (by kernel_rfl) (by kernel_rfl)
theorem n35_12s : codeB Try.prog E cx n35_12 st = condS (codeB Try.prog E cx n35_13) (codeB Try.prog E cx n35_14) (lk st.σ 13) st := GE.cond_step (c := .tmp 13) (by kernel_rfl)
theorem n35_10s : codeB Try.prog E cx n35_10 st = thenS (codeB Try.prog E cx n35_11 st) (codeB Try.prog E cx n35_12) := GE.seq_step (by kernel_rfl)
theorem n35_18s : codeB Try.prog E ⟨f, 43, b, ro⟩ n35_18 st = plainS (runOps Try.prog E b q35_18 (ops [true, true, false, true, false, false, true, false, false, false] Try.f35) st) := GE.region_step (id := 5) (GE.reg_of (by kernel_rfl)) (by kernel_rfl)
theorem n35_19s : codeB Try.prog E ⟨f, 43, b, ro⟩ n35_19 st = plainS (runOps Try.prog E b q35_19 (ops [true, true, false, true, false, false, true, false, false, true] Try.f35) st) := GE.region_step (id := 6) (GE.reg_of (by kernel_rfl)) (by kernel_rfl)
theorem n35_17s : codeB Try.prog E cx n35_17 st = thenS (codeB Try.prog E cx n35_18 st) (codeB Try.prog E cx n35_19) := GE.seq_step (by kernel_rfl)
theorem n35_16s : codeB Try.prog E cx n35_16 st = blockS 1 (codeB Try.prog E cx n35_17 st) st := GE.block_step (by kernel_rfl)
theorem n35_20s : codeB Try.prog E ⟨f, 43, b, ro⟩ n35_20 st = plainS (runOps Try.prog E b q35_20 (ops [true, true, false, true, false, false, true, true] Try.f35) st) := GE.region_step (id := 4) (GE.reg_of (by kernel_rfl)) (by kernel_rfl)
theorem n35_15s : codeB Try.prog E cx n35_15 st = thenS (codeB Try.prog E cx n35_16 st) (codeB Try.prog E cx n35_20) := GE.seq_step (by kernel_rfl)
theorem n35_9s : codeB Try.prog E cx n35_9 st = thenS (codeB Try.prog E cx n35_10 st) (codeB Try.prog E cx n35_15) := GE.seq_step (by kernel_rfl)
theorem n35_8k : LL.kp (⟨35, 43, b, ro⟩ : Cx).fn (4 * rid n35_9 + 3) = some ⟨[0, 3, 4], [⟨0, 0, 2, true⟩, ⟨3, 0, 2, true⟩]⟩ := by kernel_rfl
theorem n35_8s : codeB Try.prog LL ⟨35, 43, b, ro⟩ n35_8 st = headS b ⟨[0, 3, 4], [⟨0, 0, 2, true⟩, ⟨3, 0, 2, true⟩]⟩ st (lpB Try.prog LL ⟨35, 43, b, ro⟩ n35_8 n35_9) := GE.lpB_step (by kernel_rfl) (n35_8k b ro)
theorem n35_8g : LL.code ⟨35, 43, b, ro⟩ n35_8 st = headS b ⟨[0, 3, 4], [⟨0, 0, 2, true⟩, ⟨3, 0, 2, true⟩]⟩ st (lpB Try.prog LL ⟨35, 43, b, ro⟩ n35_8 n35_9) := GE.lpB_again (by kernel_rfl) (n35_8k b ro)
theorem n35_7s : codeB Try.prog E cx n35_7 st = blockS 0 (codeB Try.prog E cx n35_8 st) st := GE.block_step (by kernel_rfl)
theorem n35_5s : codeB Try.prog E cx n35_5 st = thenS (codeB Try.prog E cx n35_6 st) (codeB Try.prog E cx n35_7) := GE.seq_step (by kernel_rfl)
theorem n35_23s : codeB Try.prog E ⟨f, 43, b, ro⟩ n35_23 st = plainS (runOps Try.prog E b q35_23 (ops [true, true, true, false, false] Try.f35) st) := GE.region_step (id := 7) (GE.reg_of (by kernel_rfl)) (by kernel_rfl)
theorem n35_25s : codeB Try.prog E ⟨f, 43, b, ro⟩ n35_25 st = plainS (runOps Try.prog E b q35_25 (ops [true, true, true, false, true, false] Try.f35) st) := GE.region_step (id := 8) (GE.reg_of (by kernel_rfl)) (by kernel_rfl)
theorem n35_26s : codeB Try.prog E cx n35_26 st = some (.normal, st) := GE.skip_step (by kernel_rfl)
theorem n35_24s : codeB Try.prog E cx n35_24 st = condS (codeB Try.prog E cx n35_25) (codeB Try.prog E cx n35_26) (lk st.σ 39) st := GE.cond_step (c := .tmp 39) (by kernel_rfl)
theorem n35_22s : codeB Try.prog E cx n35_22 st = thenS (codeB Try.prog E cx n35_23 st) (codeB Try.prog E cx n35_24) := GE.seq_step (by kernel_rfl)
theorem n35_28s : codeB Try.prog E ⟨f, 43, b, ro⟩ n35_28 st = plainS (runOps Try.prog E b q35_28 (ops [true, true, true, true, false] Try.f35) st) := GE.region_step (id := 9) (GE.reg_of (by kernel_rfl)) (by kernel_rfl)
theorem n35_29s : codeB Try.prog LL ⟨35, 43, b, ro⟩ n35_29 st = normS b ⟨[2], [⟨2, 0, 2, true⟩]⟩ .ret st := GE.ret_step (by kernel_rfl) (by kernel_rfl)
theorem n35_27s : codeB Try.prog E cx n35_27 st = thenS (codeB Try.prog E cx n35_28 st) (codeB Try.prog E cx n35_29) := GE.seq_step (by kernel_rfl)
theorem n35_21s : codeB Try.prog E cx n35_21 st = thenS (codeB Try.prog E cx n35_22 st) (codeB Try.prog E cx n35_27) := GE.seq_step (by kernel_rfl)
theorem n35_4s : codeB Try.prog E cx n35_4 st = thenS (codeB Try.prog E cx n35_5 st) (codeB Try.prog E cx n35_21) := GE.seq_step (by kernel_rfl)
theorem n35_2s : codeB Try.prog E cx n35_2 st = thenS (codeB Try.prog E cx n35_3 st) (codeB Try.prog E cx n35_4) := GE.seq_step (by kernel_rfl)
theorem n35_0s : codeB Try.prog E cx n35_0 st = thenS (codeB Try.prog E cx n35_1 st) (codeB Try.prog E cx n35_2) := GE.seq_step (by kernel_rfl)
noncomputable def n36_0 : Code := bodyOf Try.f36
noncomputable def n36_1 : Code := cl n36_0
noncomputable def q36_1 : List Oper := opsOf n36_1
noncomputable def n36_2 : Code := cr n36_0
noncomputable def n36_3 : Code := cl n36_2
noncomputable def n36_4 : Code := cl n36_3
noncomputable def q36_4 : List Oper := opsOf n36_4
noncomputable def n36_5 : Code := cr n36_3
noncomputable def n36_6 : Code := cl n36_5
noncomputable def n36_7 : Code := cl n36_6
noncomputable def n36_8 : Code := cl n36_7
noncomputable def q36_8 : List Oper := opsOf n36_8
noncomputable def n36_9 : Code := cr n36_7
noncomputable def n36_10 : Code := cl n36_9
noncomputable def n36_11 : Code := cl n36_10
noncomputable def q36_11 : List Oper := opsOf n36_11
noncomputable def n36_12 : Code := cr n36_10
noncomputable def n36_13 : Code := cr n36_9
noncomputable def n36_14 : Code := cr n36_6
noncomputable def n36_15 : Code := cl n36_14
noncomputable def q36_15 : List Oper := opsOf n36_15
noncomputable def n36_16 : Code := cr n36_14
noncomputable def n36_17 : Code := cr n36_5
noncomputable def n36_18 : Code := cr n36_2
noncomputable def n36_19 : Code := cl n36_18
noncomputable def q36_19 : List Oper := opsOf n36_19
noncomputable def n36_20 : Code := cr n36_18
noncomputable def n36_21 : Code := cl n36_20
noncomputable def n36_22 : Code := cl n36_21
noncomputable def q36_22 : List Oper := opsOf n36_22
noncomputable def n36_23 : Code := cr n36_21
noncomputable def n36_24 : Code := cl n36_23
noncomputable def n36_25 : Code := cl n36_24
noncomputable def n36_26 : Code := cl n36_25
noncomputable def q36_26 : List Oper := opsOf n36_26
noncomputable def n36_27 : Code := cr n36_25
noncomputable def n36_28 : Code := cl n36_27
noncomputable def n36_29 : Code := cl n36_28
noncomputable def n36_30 : Code := cr n36_28
noncomputable def n36_31 : Code := cr n36_27
noncomputable def n36_32 : Code := cl n36_31
noncomputable def n36_33 : Code := cl n36_32
noncomputable def n36_34 : Code := cl n36_33
noncomputable def q36_34 : List Oper := opsOf n36_34
noncomputable def n36_35 : Code := cr n36_33
noncomputable def n36_36 : Code := cl n36_35
noncomputable def q36_36 : List Oper := opsOf n36_36
noncomputable def n36_37 : Code := cr n36_35
noncomputable def n36_38 : Code := cl n36_37
noncomputable def n36_39 : Code := cl n36_38
noncomputable def q36_39 : List Oper := opsOf n36_39
noncomputable def n36_40 : Code := cr n36_38
noncomputable def n36_41 : Code := cl n36_40
noncomputable def n36_42 : Code := cl n36_41
noncomputable def n36_43 : Code := cl n36_42
noncomputable def q36_43 : List Oper := opsOf n36_43
noncomputable def n36_44 : Code := cr n36_42
noncomputable def n36_45 : Code := cl n36_44
noncomputable def n36_46 : Code := cl n36_45
noncomputable def n36_47 : Code := cr n36_45
noncomputable def n36_48 : Code := cr n36_44
noncomputable def n36_49 : Code := cl n36_48
noncomputable def n36_50 : Code := cl n36_49
noncomputable def n36_51 : Code := cl n36_50
noncomputable def q36_51 : List Oper := opsOf n36_51
noncomputable def n36_52 : Code := cr n36_50
noncomputable def q36_52 : List Oper := opsOf n36_52
noncomputable def n36_53 : Code := cr n36_48
noncomputable def q36_53 : List Oper := opsOf n36_53
noncomputable def n36_54 : Code := cr n36_37
noncomputable def n36_55 : Code := cl n36_54
noncomputable def q36_55 : List Oper := opsOf n36_55
noncomputable def n36_56 : Code := cr n36_54
noncomputable def n36_57 : Code := cl n36_56
noncomputable def q36_57 : List Oper := opsOf n36_57
noncomputable def n36_58 : Code := cr n36_56
noncomputable def n36_59 : Code := cr n36_31
noncomputable def q36_59 : List Oper := opsOf n36_59
noncomputable def n36_60 : Code := cr n36_20
noncomputable def n36_61 : Code := cl n36_60
noncomputable def q36_61 : List Oper := opsOf n36_61
noncomputable def n36_62 : Code := cr n36_60
theorem body36 : Try.f36.body = some n36_0 := by kernel_rfl
theorem run36 (E : Ev) (args : List Value) (h : List Blk) (hl : args.length ≤ 52) : runB Try.prog E 36 args h = endS Try.prog [.tmp 4] h.length (codeB Try.prog E ⟨36, 52, h.length, none⟩ n36_0 ⟨enumT 0 args, h, []⟩) := GE.run_step Try.func36 body36 (by kernel_rfl) (by decide) (by kernel_rfl) hl
theorem n36_1s : codeB Try.prog E ⟨f, 52, b, ro⟩ n36_1 st = plainS (runOps Try.prog E b q36_1 (ops [false] Try.f36) st) := GE.region_step (id := 0) (GE.reg_of (by kernel_rfl)) (by kernel_rfl)
theorem n36_4s : codeB Try.prog E ⟨f, 52, b, ro⟩ n36_4 st = plainS (runOps Try.prog E b q36_4 (ops [true, false, false] Try.f36) st) := GE.region_step (id := 1) (GE.reg_of (by kernel_rfl)) (by kernel_rfl)
theorem n36_8s : codeB Try.prog E ⟨f, 52, b, ro⟩ n36_8 st = plainS (runOps Try.prog E b q36_8 (ops [true, false, true, false, false, false] Try.f36) st) := GE.region_step (id := 2) (GE.reg_of (by kernel_rfl)) (by kernel_rfl)
theorem n36_11s : codeB Try.prog E ⟨f, 52, b, ro⟩ n36_11 st = plainS (runOps Try.prog E b q36_11 (ops [true, false, true, false, false, true, false, false] Try.f36) st) := GE.region_step (id := 3) (GE.reg_of (by kernel_rfl)) (by kernel_rfl)
theorem n36_12s : codeB Try.prog LL ⟨36, 52, b, ro⟩ n36_12 st = normS b ⟨[4], [⟨4, 0, 1, false⟩]⟩ .ret st := GE.ret_step (by kernel_rfl) (by kernel_rfl)
theorem n36_10s : codeB Try.prog E cx n36_10 st = thenS (codeB Try.prog E cx n36_11 st) (codeB Try.prog E cx n36_12) := GE.seq_step (by kernel_rfl)
theorem n36_13s : codeB Try.prog E cx n36_13 st = some (.normal, st) := GE.skip_step (by kernel_rfl)
theorem n36_9s : codeB Try.prog E cx n36_9 st = condS (codeB Try.prog E cx n36_10) (codeB Try.prog E cx n36_13) (lk st.σ 17) st := GE.cond_step (c := .tmp 17) (by kernel_rfl)
theorem n36_7s : codeB Try.prog E cx n36_7 st = thenS (codeB Try.prog E cx n36_8 st) (codeB Try.prog E cx n36_9) := GE.seq_step (by kernel_rfl)
theorem n36_15s : codeB Try.prog E ⟨f, 52, b, ro⟩ n36_15 st = plainS (runOps Try.prog E b q36_15 (ops [true, false, true, false, true, false] Try.f36) st) := GE.region_step (id := 4) (GE.reg_of (by kernel_rfl)) (by kernel_rfl)
theorem n36_16s : codeB Try.prog LL ⟨36, 52, b, ro⟩ n36_16 st = normS b ⟨[4], [⟨4, 0, 1, false⟩]⟩ .ret st := GE.ret_step (by kernel_rfl) (by kernel_rfl)
theorem n36_14s : codeB Try.prog E cx n36_14 st = thenS (codeB Try.prog E cx n36_15 st) (codeB Try.prog E cx n36_16) := GE.seq_step (by kernel_rfl)
theorem n36_6s : codeB Try.prog E cx n36_6 st = thenS (codeB Try.prog E cx n36_7 st) (codeB Try.prog E cx n36_14) := GE.seq_step (by kernel_rfl)
theorem n36_17s : codeB Try.prog E cx n36_17 st = some (.normal, st) := GE.skip_step (by kernel_rfl)
theorem n36_5s : codeB Try.prog E cx n36_5 st = condS (codeB Try.prog E cx n36_6) (codeB Try.prog E cx n36_17) (lk st.σ 14) st := GE.cond_step (c := .tmp 14) (by kernel_rfl)
theorem n36_3s : codeB Try.prog E cx n36_3 st = thenS (codeB Try.prog E cx n36_4 st) (codeB Try.prog E cx n36_5) := GE.seq_step (by kernel_rfl)
theorem n36_19s : codeB Try.prog E ⟨f, 52, b, ro⟩ n36_19 st = plainS (runOps Try.prog E b q36_19 (ops [true, true, false] Try.f36) st) := GE.region_step (id := 5) (GE.reg_of (by kernel_rfl)) (by kernel_rfl)
theorem n36_22s : codeB Try.prog E ⟨f, 52, b, ro⟩ n36_22 st = plainS (runOps Try.prog E b q36_22 (ops [true, true, true, false, false] Try.f36) st) := GE.region_step (id := 6) (GE.reg_of (by kernel_rfl)) (by kernel_rfl)
theorem n36_26s : codeB Try.prog E ⟨f, 52, b, ro⟩ n36_26 st = plainS (runOps Try.prog E b q36_26 (ops [true, true, true, false, true, false, false, false] Try.f36) st) := GE.region_step (id := 7) (GE.reg_of (by kernel_rfl)) (by kernel_rfl)
theorem n36_29s : codeB Try.prog E cx n36_29 st = some (.normal, st) := GE.skip_step (by kernel_rfl)
theorem n36_30s : codeB Try.prog LL ⟨36, 52, b, ro⟩ n36_30 st = normS b ⟨[5], [⟨5, 0, 1, false⟩]⟩ (.exit 0) st := GE.exit_step (by kernel_rfl) (by kernel_rfl)
theorem n36_28s : codeB Try.prog E cx n36_28 st = condS (codeB Try.prog E cx n36_29) (codeB Try.prog E cx n36_30) (lk st.σ 23) st := GE.cond_step (c := .tmp 23) (by kernel_rfl)
theorem n36_34s : codeB Try.prog E ⟨f, 52, b, ro⟩ n36_34 st = plainS (runOps Try.prog E b q36_34 (ops [true, true, true, false, true, false, false, true, true, false, false, false] Try.f36) st) := GE.region_step (id := 8) (GE.reg_of (by kernel_rfl)) (by kernel_rfl)
theorem n36_36s : codeB Try.prog E ⟨f, 52, b, ro⟩ n36_36 st = plainS (runOps Try.prog E b q36_36 (ops [true, true, true, false, true, false, false, true, true, false, false, true, false] Try.f36) st) := GE.region_step (id := 9) (GE.reg_of (by kernel_rfl)) (by kernel_rfl)
theorem n36_39s : codeB Try.prog E ⟨f, 52, b, ro⟩ n36_39 st = plainS (runOps Try.prog E b q36_39 (ops [true, true, true, false, true, false, false, true, true, false, false, true, true, false, false] Try.f36) st) := GE.region_step (id := 10) (GE.reg_of (by kernel_rfl)) (by kernel_rfl)
theorem n36_43s : codeB Try.prog E ⟨f, 52, b, ro⟩ n36_43 st = plainS (runOps Try.prog E b q36_43 (ops [true, true, true, false, true, false, false, true, true, false, false, true, true, false, true, false, false, false] Try.f36) st) := GE.region_step (id := 11) (GE.reg_of (by kernel_rfl)) (by kernel_rfl)
theorem n36_46s : codeB Try.prog E cx n36_46 st = some (.normal, st) := GE.skip_step (by kernel_rfl)
theorem n36_47s : codeB Try.prog LL ⟨36, 52, b, ro⟩ n36_47 st = normS b ⟨[6, 7, 0, 1, 5, 21, 22], [⟨0, 0, 2, true⟩, ⟨1, 0, 1, true⟩, ⟨5, 0, 1, false⟩]⟩ (.exit 2) st := GE.exit_step (by kernel_rfl) (by kernel_rfl)
theorem n36_45s : codeB Try.prog E cx n36_45 st = condS (codeB Try.prog E cx n36_46) (codeB Try.prog E cx n36_47) (lk st.σ 28) st := GE.cond_step (c := .tmp 28) (by kernel_rfl)
theorem n36_51s : codeB Try.prog E ⟨f, 52, b, ro⟩ n36_51 st = plainS (runOps Try.prog E b q36_51 (ops [true, true, true, false, true, false, false, true, true, false, false, true, true, false, true, false, false, true, true, false, false, false] Try.f36) st) := GE.region_step (id := 12) (GE.reg_of (by kernel_rfl)) (by kernel_rfl)
theorem q36_52g1 : gd q36_52 1 = some 32 := by kernel_rfl
theorem n36_52s : codeB Try.prog E ⟨f, 52, b, ro⟩ n36_52 st = plainS (runOps Try.prog E b q36_52 (ops [true, true, true, false, true, false, false, true, true, false, false, true, true, false, true, false, false, true, true, false, false, true] Try.f36) st) := GE.region_step (id := 13) (GE.reg_of (by kernel_rfl)) (by kernel_rfl)
theorem n36_50s : codeB Try.prog E cx n36_50 st = thenS (codeB Try.prog E cx n36_51 st) (codeB Try.prog E cx n36_52) := GE.seq_step (by kernel_rfl)
theorem n36_49s : codeB Try.prog E cx n36_49 st = blockS 3 (codeB Try.prog E cx n36_50 st) st := GE.block_step (by kernel_rfl)
theorem n36_53s : codeB Try.prog E ⟨f, 52, b, ro⟩ n36_53 st = plainS (runOps Try.prog E b q36_53 (ops [true, true, true, false, true, false, false, true, true, false, false, true, true, false, true, false, false, true, true, true] Try.f36) st) := GE.region_step (id := 14) (GE.reg_of (by kernel_rfl)) (by kernel_rfl)
theorem n36_48s : codeB Try.prog E cx n36_48 st = thenS (codeB Try.prog E cx n36_49 st) (codeB Try.prog E cx n36_53) := GE.seq_step (by kernel_rfl)
theorem n36_44s : codeB Try.prog E cx n36_44 st = thenS (codeB Try.prog E cx n36_45 st) (codeB Try.prog E cx n36_48) := GE.seq_step (by kernel_rfl)
theorem n36_42s : codeB Try.prog E cx n36_42 st = thenS (codeB Try.prog E cx n36_43 st) (codeB Try.prog E cx n36_44) := GE.seq_step (by kernel_rfl)
theorem n36_41k : LL.kp (⟨36, 52, b, ro⟩ : Cx).fn (4 * rid n36_42 + 3) = some ⟨[6, 7, 25, 26, 27, 0, 1, 5, 21, 22], [⟨25, 0, 1, true⟩, ⟨0, 0, 2, true⟩, ⟨1, 0, 1, true⟩, ⟨5, 0, 1, false⟩]⟩ := by kernel_rfl
theorem n36_41s : codeB Try.prog LL ⟨36, 52, b, ro⟩ n36_41 st = headS b ⟨[6, 7, 25, 26, 27, 0, 1, 5, 21, 22], [⟨25, 0, 1, true⟩, ⟨0, 0, 2, true⟩, ⟨1, 0, 1, true⟩, ⟨5, 0, 1, false⟩]⟩ st (lpB Try.prog LL ⟨36, 52, b, ro⟩ n36_41 n36_42) := GE.lpB_step (by kernel_rfl) (n36_41k b ro)
theorem n36_41g : LL.code ⟨36, 52, b, ro⟩ n36_41 st = headS b ⟨[6, 7, 25, 26, 27, 0, 1, 5, 21, 22], [⟨25, 0, 1, true⟩, ⟨0, 0, 2, true⟩, ⟨1, 0, 1, true⟩, ⟨5, 0, 1, false⟩]⟩ st (lpB Try.prog LL ⟨36, 52, b, ro⟩ n36_41 n36_42) := GE.lpB_again (by kernel_rfl) (n36_41k b ro)
theorem n36_40s : codeB Try.prog E cx n36_40 st = blockS 2 (codeB Try.prog E cx n36_41 st) st := GE.block_step (by kernel_rfl)
theorem n36_38s : codeB Try.prog E cx n36_38 st = thenS (codeB Try.prog E cx n36_39 st) (codeB Try.prog E cx n36_40) := GE.seq_step (by kernel_rfl)
theorem n36_55s : codeB Try.prog E ⟨f, 52, b, ro⟩ n36_55 st = plainS (runOps Try.prog E b q36_55 (ops [true, true, true, false, true, false, false, true, true, false, false, true, true, true, false] Try.f36) st) := GE.region_step (id := 15) (GE.reg_of (by kernel_rfl)) (by kernel_rfl)
theorem n36_57s : codeB Try.prog E ⟨f, 52, b, ro⟩ n36_57 st = plainS (runOps Try.prog E b q36_57 (ops [true, true, true, false, true, false, false, true, true, false, false, true, true, true, true, false] Try.f36) st) := GE.region_step (id := 16) (GE.reg_of (by kernel_rfl)) (by kernel_rfl)
theorem n36_58s : codeB Try.prog E cx n36_58 st = some (.normal, st) := GE.skip_step (by kernel_rfl)
theorem n36_56s : codeB Try.prog E cx n36_56 st = condS (codeB Try.prog E cx n36_57) (codeB Try.prog E cx n36_58) (lk st.σ 39) st := GE.cond_step (c := .tmp 39) (by kernel_rfl)
theorem n36_54s : codeB Try.prog E cx n36_54 st = thenS (codeB Try.prog E cx n36_55 st) (codeB Try.prog E cx n36_56) := GE.seq_step (by kernel_rfl)
theorem n36_37s : codeB Try.prog E cx n36_37 st = thenS (codeB Try.prog E cx n36_38 st) (codeB Try.prog E cx n36_54) := GE.seq_step (by kernel_rfl)
theorem n36_35s : codeB Try.prog E cx n36_35 st = thenS (codeB Try.prog E cx n36_36 st) (codeB Try.prog E cx n36_37) := GE.seq_step (by kernel_rfl)
theorem n36_33s : codeB Try.prog E cx n36_33 st = thenS (codeB Try.prog E cx n36_34 st) (codeB Try.prog E cx n36_35) := GE.seq_step (by kernel_rfl)
theorem n36_32s : codeB Try.prog E cx n36_32 st = blockS 1 (codeB Try.prog E cx n36_33 st) st := GE.block_step (by kernel_rfl)
theorem n36_59s : codeB Try.prog E ⟨f, 52, b, ro⟩ n36_59 st = plainS (runOps Try.prog E b q36_59 (ops [true, true, true, false, true, false, false, true, true, true] Try.f36) st) := GE.region_step (id := 17) (GE.reg_of (by kernel_rfl)) (by kernel_rfl)
theorem n36_31s : codeB Try.prog E cx n36_31 st = thenS (codeB Try.prog E cx n36_32 st) (codeB Try.prog E cx n36_59) := GE.seq_step (by kernel_rfl)
theorem n36_27s : codeB Try.prog E cx n36_27 st = thenS (codeB Try.prog E cx n36_28 st) (codeB Try.prog E cx n36_31) := GE.seq_step (by kernel_rfl)
theorem n36_25s : codeB Try.prog E cx n36_25 st = thenS (codeB Try.prog E cx n36_26 st) (codeB Try.prog E cx n36_27) := GE.seq_step (by kernel_rfl)
theorem n36_24k : LL.kp (⟨36, 52, b, ro⟩ : Cx).fn (4 * rid n36_25 + 3) = some ⟨[0, 1, 5, 21, 22], [⟨0, 0, 2, true⟩, ⟨1, 0, 1, true⟩, ⟨5, 0, 1, false⟩]⟩ := by kernel_rfl
theorem n36_24s : codeB Try.prog LL ⟨36, 52, b, ro⟩ n36_24 st = headS b ⟨[0, 1, 5, 21, 22], [⟨0, 0, 2, true⟩, ⟨1, 0, 1, true⟩, ⟨5, 0, 1, false⟩]⟩ st (lpB Try.prog LL ⟨36, 52, b, ro⟩ n36_24 n36_25) := GE.lpB_step (by kernel_rfl) (n36_24k b ro)
theorem n36_24g : LL.code ⟨36, 52, b, ro⟩ n36_24 st = headS b ⟨[0, 1, 5, 21, 22], [⟨0, 0, 2, true⟩, ⟨1, 0, 1, true⟩, ⟨5, 0, 1, false⟩]⟩ st (lpB Try.prog LL ⟨36, 52, b, ro⟩ n36_24 n36_25) := GE.lpB_again (by kernel_rfl) (n36_24k b ro)
theorem n36_23s : codeB Try.prog E cx n36_23 st = blockS 0 (codeB Try.prog E cx n36_24 st) st := GE.block_step (by kernel_rfl)
theorem n36_21s : codeB Try.prog E cx n36_21 st = thenS (codeB Try.prog E cx n36_22 st) (codeB Try.prog E cx n36_23) := GE.seq_step (by kernel_rfl)
theorem n36_61s : codeB Try.prog E ⟨f, 52, b, ro⟩ n36_61 st = plainS (runOps Try.prog E b q36_61 (ops [true, true, true, true, false] Try.f36) st) := GE.region_step (id := 18) (GE.reg_of (by kernel_rfl)) (by kernel_rfl)
theorem n36_62s : codeB Try.prog LL ⟨36, 52, b, ro⟩ n36_62 st = normS b ⟨[4], [⟨4, 0, 1, false⟩]⟩ .ret st := GE.ret_step (by kernel_rfl) (by kernel_rfl)
theorem n36_60s : codeB Try.prog E cx n36_60 st = thenS (codeB Try.prog E cx n36_61 st) (codeB Try.prog E cx n36_62) := GE.seq_step (by kernel_rfl)
theorem n36_20s : codeB Try.prog E cx n36_20 st = thenS (codeB Try.prog E cx n36_21 st) (codeB Try.prog E cx n36_60) := GE.seq_step (by kernel_rfl)
theorem n36_18s : codeB Try.prog E cx n36_18 st = thenS (codeB Try.prog E cx n36_19 st) (codeB Try.prog E cx n36_20) := GE.seq_step (by kernel_rfl)
theorem n36_2s : codeB Try.prog E cx n36_2 st = thenS (codeB Try.prog E cx n36_3 st) (codeB Try.prog E cx n36_18) := GE.seq_step (by kernel_rfl)
theorem n36_0s : codeB Try.prog E cx n36_0 st = thenS (codeB Try.prog E cx n36_1 st) (codeB Try.prog E cx n36_2) := GE.seq_step (by kernel_rfl)
noncomputable def n39_0 : Code := bodyOf Try.f39
noncomputable def n39_1 : Code := cl n39_0
noncomputable def q39_1 : List Oper := opsOf n39_1
noncomputable def n39_2 : Code := cr n39_0
noncomputable def n39_3 : Code := cl n39_2
noncomputable def n39_4 : Code := cl n39_3
noncomputable def q39_4 : List Oper := opsOf n39_4
noncomputable def n39_5 : Code := cr n39_3
noncomputable def n39_6 : Code := cl n39_5
noncomputable def n39_7 : Code := cl n39_6
noncomputable def n39_8 : Code := cl n39_7
noncomputable def n39_9 : Code := cl n39_8
noncomputable def q39_9 : List Oper := opsOf n39_9
noncomputable def n39_10 : Code := cr n39_8
noncomputable def n39_11 : Code := cl n39_10
noncomputable def n39_12 : Code := cr n39_10
noncomputable def n39_13 : Code := cr n39_7
noncomputable def n39_14 : Code := cl n39_13
noncomputable def n39_15 : Code := cl n39_14
noncomputable def n39_16 : Code := cl n39_15
noncomputable def q39_16 : List Oper := opsOf n39_16
noncomputable def n39_17 : Code := cr n39_15
noncomputable def n39_18 : Code := cl n39_17
noncomputable def n39_19 : Code := cl n39_18
noncomputable def q39_19 : List Oper := opsOf n39_19
noncomputable def n39_20 : Code := cr n39_18
noncomputable def n39_21 : Code := cr n39_17
noncomputable def n39_22 : Code := cr n39_13
noncomputable def q39_22 : List Oper := opsOf n39_22
noncomputable def n39_23 : Code := cr n39_2
noncomputable def n39_24 : Code := cl n39_23
noncomputable def q39_24 : List Oper := opsOf n39_24
noncomputable def n39_25 : Code := cr n39_23
theorem body39 : Try.f39.body = some n39_0 := by kernel_rfl
theorem run39 (E : Ev) (args : List Value) (h : List Blk) (hl : args.length ≤ 22) : runB Try.prog E 39 args h = endS Try.prog [.tmp 2] h.length (codeB Try.prog E ⟨39, 22, h.length, none⟩ n39_0 ⟨enumT 0 args, h, []⟩) := GE.run_step Try.func39 body39 (by kernel_rfl) (by decide) (by kernel_rfl) hl
theorem n39_1s : codeB Try.prog E ⟨f, 22, b, ro⟩ n39_1 st = plainS (runOps Try.prog E b q39_1 (ops [false] Try.f39) st) := GE.region_step (id := 0) (GE.reg_of (by kernel_rfl)) (by kernel_rfl)
theorem n39_4s : codeB Try.prog E ⟨f, 22, b, ro⟩ n39_4 st = plainS (runOps Try.prog E b q39_4 (ops [true, false, false] Try.f39) st) := GE.region_step (id := 1) (GE.reg_of (by kernel_rfl)) (by kernel_rfl)
theorem n39_9s : codeB Try.prog E ⟨f, 22, b, ro⟩ n39_9 st = plainS (runOps Try.prog E b q39_9 (ops [true, false, true, false, false, false, false] Try.f39) st) := GE.region_step (id := 2) (GE.reg_of (by kernel_rfl)) (by kernel_rfl)
theorem n39_11s : codeB Try.prog E cx n39_11 st = some (.normal, st) := GE.skip_step (by kernel_rfl)
theorem n39_12s : codeB Try.prog LL ⟨39, 22, b, ro⟩ n39_12 st = normS b ⟨[], []⟩ (.exit 0) st := GE.exit_step (by kernel_rfl) (by kernel_rfl)
theorem n39_10s : codeB Try.prog E cx n39_10 st = condS (codeB Try.prog E cx n39_11) (codeB Try.prog E cx n39_12) (lk st.σ 7) st := GE.cond_step (c := .tmp 7) (by kernel_rfl)
theorem n39_8s : codeB Try.prog E cx n39_8 st = thenS (codeB Try.prog E cx n39_9 st) (codeB Try.prog E cx n39_10) := GE.seq_step (by kernel_rfl)
theorem q39_16g5 : gd q39_16 5 = some 15 := by kernel_rfl
theorem n39_16s : codeB Try.prog E ⟨f, 22, b, ro⟩ n39_16 st = plainS (runOps Try.prog E b q39_16 (ops [true, false, true, false, false, true, false, false, false] Try.f39) st) := GE.region_step (id := 4) (GE.reg_of (by kernel_rfl)) (by kernel_rfl)
theorem n39_19s : codeB Try.prog E ⟨f, 22, b, ro⟩ n39_19 st = plainS (runOps Try.prog E b q39_19 (ops [true, false, true, false, false, true, false, false, true, false, false] Try.f39) st) := GE.region_step (id := 5) (GE.reg_of (by kernel_rfl)) (by kernel_rfl)
theorem n39_20s : codeB Try.prog LL ⟨39, 22, b, ro⟩ n39_20 st = normS b ⟨[2], []⟩ .ret st := GE.ret_step (by kernel_rfl) (by kernel_rfl)
theorem n39_18s : codeB Try.prog E cx n39_18 st = thenS (codeB Try.prog E cx n39_19 st) (codeB Try.prog E cx n39_20) := GE.seq_step (by kernel_rfl)
theorem n39_21s : codeB Try.prog E cx n39_21 st = some (.normal, st) := GE.skip_step (by kernel_rfl)
theorem n39_17s : codeB Try.prog E cx n39_17 st = condS (codeB Try.prog E cx n39_18) (codeB Try.prog E cx n39_21) (lk st.σ 21) st := GE.cond_step (c := .tmp 21) (by kernel_rfl)
theorem n39_15s : codeB Try.prog E cx n39_15 st = thenS (codeB Try.prog E cx n39_16 st) (codeB Try.prog E cx n39_17) := GE.seq_step (by kernel_rfl)
theorem n39_14s : codeB Try.prog E cx n39_14 st = blockS 1 (codeB Try.prog E cx n39_15 st) st := GE.block_step (by kernel_rfl)
theorem n39_22s : codeB Try.prog E ⟨f, 22, b, ro⟩ n39_22 st = plainS (runOps Try.prog E b q39_22 (ops [true, false, true, false, false, true, true] Try.f39) st) := GE.region_step (id := 3) (GE.reg_of (by kernel_rfl)) (by kernel_rfl)
theorem n39_13s : codeB Try.prog E cx n39_13 st = thenS (codeB Try.prog E cx n39_14 st) (codeB Try.prog E cx n39_22) := GE.seq_step (by kernel_rfl)
theorem n39_7s : codeB Try.prog E cx n39_7 st = thenS (codeB Try.prog E cx n39_8 st) (codeB Try.prog E cx n39_13) := GE.seq_step (by kernel_rfl)
theorem n39_6k : LL.kp (⟨39, 22, b, ro⟩ : Cx).fn (4 * rid n39_7 + 3) = some ⟨[1, 3], []⟩ := by kernel_rfl
theorem n39_6s : codeB Try.prog LL ⟨39, 22, b, ro⟩ n39_6 st = headS b ⟨[1, 3], []⟩ st (lpB Try.prog LL ⟨39, 22, b, ro⟩ n39_6 n39_7) := GE.lpB_step (by kernel_rfl) (n39_6k b ro)
theorem n39_6g : LL.code ⟨39, 22, b, ro⟩ n39_6 st = headS b ⟨[1, 3], []⟩ st (lpB Try.prog LL ⟨39, 22, b, ro⟩ n39_6 n39_7) := GE.lpB_again (by kernel_rfl) (n39_6k b ro)
theorem n39_5s : codeB Try.prog E cx n39_5 st = blockS 0 (codeB Try.prog E cx n39_6 st) st := GE.block_step (by kernel_rfl)
theorem n39_3s : codeB Try.prog E cx n39_3 st = thenS (codeB Try.prog E cx n39_4 st) (codeB Try.prog E cx n39_5) := GE.seq_step (by kernel_rfl)
theorem n39_24s : codeB Try.prog E ⟨f, 22, b, ro⟩ n39_24 st = plainS (runOps Try.prog E b q39_24 (ops [true, true, false] Try.f39) st) := GE.region_step (id := 6) (GE.reg_of (by kernel_rfl)) (by kernel_rfl)
theorem n39_25s : codeB Try.prog LL ⟨39, 22, b, ro⟩ n39_25 st = normS b ⟨[2], []⟩ .ret st := GE.ret_step (by kernel_rfl) (by kernel_rfl)
theorem n39_23s : codeB Try.prog E cx n39_23 st = thenS (codeB Try.prog E cx n39_24 st) (codeB Try.prog E cx n39_25) := GE.seq_step (by kernel_rfl)
theorem n39_2s : codeB Try.prog E cx n39_2 st = thenS (codeB Try.prog E cx n39_3 st) (codeB Try.prog E cx n39_23) := GE.seq_step (by kernel_rfl)
theorem n39_0s : codeB Try.prog E cx n39_0 st = thenS (codeB Try.prog E cx n39_1 st) (codeB Try.prog E cx n39_2) := GE.seq_step (by kernel_rfl)
noncomputable def n44_0 : Code := bodyOf Try.f44
noncomputable def n44_1 : Code := cl n44_0
noncomputable def q44_1 : List Oper := opsOf n44_1
noncomputable def n44_2 : Code := cr n44_0
noncomputable def n44_3 : Code := cl n44_2
noncomputable def q44_3 : List Oper := opsOf n44_3
noncomputable def n44_4 : Code := cr n44_2
noncomputable def n44_5 : Code := cl n44_4
noncomputable def n44_6 : Code := cl n44_5
noncomputable def q44_6 : List Oper := opsOf n44_6
noncomputable def n44_7 : Code := cr n44_5
noncomputable def n44_8 : Code := cl n44_7
noncomputable def n44_9 : Code := cl n44_8
noncomputable def n44_10 : Code := cl n44_9
noncomputable def n44_11 : Code := cl n44_10
noncomputable def q44_11 : List Oper := opsOf n44_11
noncomputable def n44_12 : Code := cr n44_10
noncomputable def n44_13 : Code := cl n44_12
noncomputable def n44_14 : Code := cr n44_12
noncomputable def n44_15 : Code := cr n44_9
noncomputable def n44_16 : Code := cl n44_15
noncomputable def n44_17 : Code := cl n44_16
noncomputable def q44_17 : List Oper := opsOf n44_17
noncomputable def n44_18 : Code := cr n44_15
noncomputable def q44_18 : List Oper := opsOf n44_18
noncomputable def n44_19 : Code := cr n44_4
noncomputable def n44_20 : Code := cl n44_19
noncomputable def q44_20 : List Oper := opsOf n44_20
noncomputable def n44_21 : Code := cr n44_19
theorem body44 : Try.f44.body = some n44_0 := by kernel_rfl
theorem run44 (E : Ev) (args : List Value) (h : List Blk) (hl : args.length ≤ 26) : runB Try.prog E 44 args h = endS Try.prog [.tmp 2] h.length (codeB Try.prog E ⟨44, 26, h.length, none⟩ n44_0 ⟨enumT 0 args, h, []⟩) := GE.run_step Try.func44 body44 (by kernel_rfl) (by decide) (by kernel_rfl) hl
theorem n44_1s : codeB Try.prog E ⟨f, 26, b, ro⟩ n44_1 st = plainS (runOps Try.prog E b q44_1 (ops [false] Try.f44) st) := GE.region_step (id := 0) (GE.reg_of (by kernel_rfl)) (by kernel_rfl)
theorem n44_3s : codeB Try.prog E ⟨f, 26, b, ro⟩ n44_3 st = plainS (runOps Try.prog E b q44_3 (ops [true, false] Try.f44) st) := GE.region_step (id := 1) (GE.reg_of (by kernel_rfl)) (by kernel_rfl)
theorem n44_6s : codeB Try.prog E ⟨f, 26, b, ro⟩ n44_6 st = plainS (runOps Try.prog E b q44_6 (ops [true, true, false, false] Try.f44) st) := GE.region_step (id := 2) (GE.reg_of (by kernel_rfl)) (by kernel_rfl)
theorem n44_11s : codeB Try.prog E ⟨f, 26, b, ro⟩ n44_11 st = plainS (runOps Try.prog E b q44_11 (ops [true, true, false, true, false, false, false, false] Try.f44) st) := GE.region_step (id := 3) (GE.reg_of (by kernel_rfl)) (by kernel_rfl)
theorem n44_13s : codeB Try.prog E cx n44_13 st = some (.normal, st) := GE.skip_step (by kernel_rfl)
theorem n44_14s : codeB Try.prog LL ⟨44, 26, b, ro⟩ n44_14 st = normS b ⟨[3], [⟨3, 0, 2, true⟩]⟩ (.exit 0) st := GE.exit_step (by kernel_rfl) (by kernel_rfl)
theorem n44_12s : codeB Try.prog E cx n44_12 st = condS (codeB Try.prog E cx n44_13) (codeB Try.prog E cx n44_14) (lk st.σ 9) st := GE.cond_step (c := .tmp 9) (by kernel_rfl)
theorem n44_10s : codeB Try.prog E cx n44_10 st = thenS (codeB Try.prog E cx n44_11 st) (codeB Try.prog E cx n44_12) := GE.seq_step (by kernel_rfl)
theorem n44_17s : codeB Try.prog E ⟨f, 26, b, ro⟩ n44_17 st = drawS [0, 0, 0, 6, 14, 0, 0, 64, 224, 480, 1022, 2046, 4095, 8191] (runOpsF Try.prog E b q44_17 (ops [true, true, false, true, false, false, true, false, false] Try.f44) st) := GE.draw_step (id := 5) (GE.reg_of (by kernel_rfl)) (by kernel_rfl) (by kernel_rfl) (by kernel_rfl)
theorem n44_16s : codeB Try.prog E cx n44_16 st = blockS 1 (codeB Try.prog E cx n44_17 st) st := GE.block_step (by kernel_rfl)
theorem n44_18s : codeB Try.prog E ⟨f, 26, b, ro⟩ n44_18 st = plainS (runOps Try.prog E b q44_18 (ops [true, true, false, true, false, false, true, true] Try.f44) st) := GE.region_step (id := 4) (GE.reg_of (by kernel_rfl)) (by kernel_rfl)
theorem n44_15s : codeB Try.prog E cx n44_15 st = thenS (codeB Try.prog E cx n44_16 st) (codeB Try.prog E cx n44_18) := GE.seq_step (by kernel_rfl)
theorem n44_9s : codeB Try.prog E cx n44_9 st = thenS (codeB Try.prog E cx n44_10 st) (codeB Try.prog E cx n44_15) := GE.seq_step (by kernel_rfl)
theorem n44_8k : LL.kp (⟨44, 26, b, ro⟩ : Cx).fn (4 * rid n44_9 + 3) = some ⟨[0, 3, 4], [⟨0, 0, 1, true⟩, ⟨3, 0, 2, true⟩]⟩ := by kernel_rfl
theorem n44_8s : codeB Try.prog LL ⟨44, 26, b, ro⟩ n44_8 st = headS b ⟨[0, 3, 4], [⟨0, 0, 1, true⟩, ⟨3, 0, 2, true⟩]⟩ st (lpB Try.prog LL ⟨44, 26, b, ro⟩ n44_8 n44_9) := GE.lpB_step (by kernel_rfl) (n44_8k b ro)
theorem n44_8g : LL.code ⟨44, 26, b, ro⟩ n44_8 st = headS b ⟨[0, 3, 4], [⟨0, 0, 1, true⟩, ⟨3, 0, 2, true⟩]⟩ st (lpB Try.prog LL ⟨44, 26, b, ro⟩ n44_8 n44_9) := GE.lpB_again (by kernel_rfl) (n44_8k b ro)
theorem n44_7s : codeB Try.prog E cx n44_7 st = blockS 0 (codeB Try.prog E cx n44_8 st) st := GE.block_step (by kernel_rfl)
theorem n44_5s : codeB Try.prog E cx n44_5 st = thenS (codeB Try.prog E cx n44_6 st) (codeB Try.prog E cx n44_7) := GE.seq_step (by kernel_rfl)
theorem n44_20s : codeB Try.prog E ⟨f, 26, b, ro⟩ n44_20 st = plainS (runOps Try.prog E b q44_20 (ops [true, true, true, false] Try.f44) st) := GE.region_step (id := 6) (GE.reg_of (by kernel_rfl)) (by kernel_rfl)
theorem n44_21s : codeB Try.prog LL ⟨44, 26, b, ro⟩ n44_21 st = normS b ⟨[2], [⟨2, 0, 2, true⟩]⟩ .ret st := GE.ret_step (by kernel_rfl) (by kernel_rfl)
theorem n44_19s : codeB Try.prog E cx n44_19 st = thenS (codeB Try.prog E cx n44_20 st) (codeB Try.prog E cx n44_21) := GE.seq_step (by kernel_rfl)
theorem n44_4s : codeB Try.prog E cx n44_4 st = thenS (codeB Try.prog E cx n44_5 st) (codeB Try.prog E cx n44_19) := GE.seq_step (by kernel_rfl)
theorem n44_2s : codeB Try.prog E cx n44_2 st = thenS (codeB Try.prog E cx n44_3 st) (codeB Try.prog E cx n44_4) := GE.seq_step (by kernel_rfl)
theorem n44_0s : codeB Try.prog E cx n44_0 st = thenS (codeB Try.prog E cx n44_1 st) (codeB Try.prog E cx n44_2) := GE.seq_step (by kernel_rfl)
noncomputable def n45_0 : Code := bodyOf Try.f45
noncomputable def n45_1 : Code := cl n45_0
noncomputable def q45_1 : List Oper := opsOf n45_1
noncomputable def n45_2 : Code := cr n45_0
noncomputable def n45_3 : Code := cl n45_2
noncomputable def n45_4 : Code := cl n45_3
noncomputable def n45_5 : Code := cl n45_4
noncomputable def q45_5 : List Oper := opsOf n45_5
noncomputable def n45_6 : Code := cr n45_4
noncomputable def n45_7 : Code := cl n45_6
noncomputable def n45_8 : Code := cl n45_7
noncomputable def q45_8 : List Oper := opsOf n45_8
noncomputable def n45_9 : Code := cr n45_7
noncomputable def n45_10 : Code := cr n45_6
noncomputable def n45_11 : Code := cl n45_10
noncomputable def q45_11 : List Oper := opsOf n45_11
noncomputable def n45_12 : Code := cr n45_10
noncomputable def n45_13 : Code := cl n45_12
noncomputable def n45_14 : Code := cl n45_13
noncomputable def q45_14 : List Oper := opsOf n45_14
noncomputable def n45_15 : Code := cr n45_13
noncomputable def n45_16 : Code := cr n45_12
noncomputable def n45_17 : Code := cl n45_16
noncomputable def q45_17 : List Oper := opsOf n45_17
noncomputable def n45_18 : Code := cr n45_16
noncomputable def n45_19 : Code := cl n45_18
noncomputable def n45_20 : Code := cl n45_19
noncomputable def q45_20 : List Oper := opsOf n45_20
noncomputable def n45_21 : Code := cr n45_19
noncomputable def n45_22 : Code := cr n45_18
noncomputable def n45_23 : Code := cr n45_2
noncomputable def n45_24 : Code := cl n45_23
noncomputable def q45_24 : List Oper := opsOf n45_24
noncomputable def n45_25 : Code := cr n45_23
theorem body45 : Try.f45.body = some n45_0 := by kernel_rfl
theorem run45 (E : Ev) (args : List Value) (h : List Blk) (hl : args.length ≤ 14) : runB Try.prog E 45 args h = endS Try.prog [.tmp 2] h.length (codeB Try.prog E ⟨45, 14, h.length, none⟩ n45_0 ⟨enumT 0 args, h, []⟩) := GE.run_step Try.func45 body45 (by kernel_rfl) (by decide) (by kernel_rfl) hl
theorem n45_1s : codeB Try.prog E ⟨f, 14, b, ro⟩ n45_1 st = plainS (runOps Try.prog E b q45_1 (ops [false] Try.f45) st) := GE.region_step (id := 0) (GE.reg_of (by kernel_rfl)) (by kernel_rfl)
theorem n45_5s : codeB Try.prog E ⟨f, 14, b, ro⟩ n45_5 st = plainS (runOps Try.prog E b q45_5 (ops [true, false, false, false] Try.f45) st) := GE.region_step (id := 1) (GE.reg_of (by kernel_rfl)) (by kernel_rfl)
theorem n45_8s : codeB Try.prog E ⟨f, 14, b, ro⟩ n45_8 st = plainS (runOps Try.prog E b q45_8 (ops [true, false, false, true, false, false] Try.f45) st) := GE.region_step (id := 2) (GE.reg_of (by kernel_rfl)) (by kernel_rfl)
theorem n45_9s : codeB Try.prog LL ⟨45, 14, b, ro⟩ n45_9 st = normS b ⟨[2], []⟩ .ret st := GE.ret_step (by kernel_rfl) (by kernel_rfl)
theorem n45_7s : codeB Try.prog E cx n45_7 st = thenS (codeB Try.prog E cx n45_8 st) (codeB Try.prog E cx n45_9) := GE.seq_step (by kernel_rfl)
theorem n45_11s : codeB Try.prog E ⟨f, 14, b, ro⟩ n45_11 st = plainS (runOps Try.prog E b q45_11 (ops [true, false, false, true, true, false] Try.f45) st) := GE.region_step (id := 3) (GE.reg_of (by kernel_rfl)) (by kernel_rfl)
theorem n45_14s : codeB Try.prog E ⟨f, 14, b, ro⟩ n45_14 st = plainS (runOps Try.prog E b q45_14 (ops [true, false, false, true, true, true, false, false] Try.f45) st) := GE.region_step (id := 4) (GE.reg_of (by kernel_rfl)) (by kernel_rfl)
theorem n45_15s : codeB Try.prog LL ⟨45, 14, b, ro⟩ n45_15 st = normS b ⟨[2], []⟩ .ret st := GE.ret_step (by kernel_rfl) (by kernel_rfl)
theorem n45_13s : codeB Try.prog E cx n45_13 st = thenS (codeB Try.prog E cx n45_14 st) (codeB Try.prog E cx n45_15) := GE.seq_step (by kernel_rfl)
theorem n45_17s : codeB Try.prog E ⟨f, 14, b, ro⟩ n45_17 st = plainS (runOps Try.prog E b q45_17 (ops [true, false, false, true, true, true, true, false] Try.f45) st) := GE.region_step (id := 5) (GE.reg_of (by kernel_rfl)) (by kernel_rfl)
theorem n45_20s : codeB Try.prog E ⟨f, 14, b, ro⟩ n45_20 st = plainS (runOps Try.prog E b q45_20 (ops [true, false, false, true, true, true, true, true, false, false] Try.f45) st) := GE.region_step (id := 6) (GE.reg_of (by kernel_rfl)) (by kernel_rfl)
theorem n45_21s : codeB Try.prog LL ⟨45, 14, b, ro⟩ n45_21 st = normS b ⟨[2], []⟩ .ret st := GE.ret_step (by kernel_rfl) (by kernel_rfl)
theorem n45_19s : codeB Try.prog E cx n45_19 st = thenS (codeB Try.prog E cx n45_20 st) (codeB Try.prog E cx n45_21) := GE.seq_step (by kernel_rfl)
theorem n45_22s : codeB Try.prog E cx n45_22 st = some (.normal, st) := GE.skip_step (by kernel_rfl)
theorem n45_18s : codeB Try.prog E cx n45_18 st = condS (codeB Try.prog E cx n45_19) (codeB Try.prog E cx n45_22) (lk st.σ 11) st := GE.cond_step (c := .tmp 11) (by kernel_rfl)
theorem n45_16s : codeB Try.prog E cx n45_16 st = thenS (codeB Try.prog E cx n45_17 st) (codeB Try.prog E cx n45_18) := GE.seq_step (by kernel_rfl)
theorem n45_12s : codeB Try.prog E cx n45_12 st = condS (codeB Try.prog E cx n45_13) (codeB Try.prog E cx n45_16) (lk st.σ 7) st := GE.cond_step (c := .tmp 7) (by kernel_rfl)
theorem n45_10s : codeB Try.prog E cx n45_10 st = thenS (codeB Try.prog E cx n45_11 st) (codeB Try.prog E cx n45_12) := GE.seq_step (by kernel_rfl)
theorem n45_6s : codeB Try.prog E cx n45_6 st = condS (codeB Try.prog E cx n45_7) (codeB Try.prog E cx n45_10) (lk st.σ 3) st := GE.cond_step (c := .tmp 3) (by kernel_rfl)
theorem n45_4s : codeB Try.prog E cx n45_4 st = thenS (codeB Try.prog E cx n45_5 st) (codeB Try.prog E cx n45_6) := GE.seq_step (by kernel_rfl)
theorem n45_3s : codeB Try.prog E cx n45_3 st = blockS 0 (codeB Try.prog E cx n45_4 st) st := GE.block_step (by kernel_rfl)
theorem n45_24s : codeB Try.prog E ⟨f, 14, b, ro⟩ n45_24 st = plainS (runOps Try.prog E b q45_24 (ops [true, true, false] Try.f45) st) := GE.region_step (id := 7) (GE.reg_of (by kernel_rfl)) (by kernel_rfl)
theorem n45_25s : codeB Try.prog LL ⟨45, 14, b, ro⟩ n45_25 st = normS b ⟨[2], []⟩ .ret st := GE.ret_step (by kernel_rfl) (by kernel_rfl)
theorem n45_23s : codeB Try.prog E cx n45_23 st = thenS (codeB Try.prog E cx n45_24 st) (codeB Try.prog E cx n45_25) := GE.seq_step (by kernel_rfl)
theorem n45_2s : codeB Try.prog E cx n45_2 st = thenS (codeB Try.prog E cx n45_3 st) (codeB Try.prog E cx n45_23) := GE.seq_step (by kernel_rfl)
theorem n45_0s : codeB Try.prog E cx n45_0 st = thenS (codeB Try.prog E cx n45_1 st) (codeB Try.prog E cx n45_2) := GE.seq_step (by kernel_rfl)
noncomputable def n51_0 : Code := bodyOf Try.f51
noncomputable def n51_1 : Code := cl n51_0
noncomputable def q51_1 : List Oper := opsOf n51_1
noncomputable def n51_2 : Code := cr n51_0
noncomputable def n51_3 : Code := cl n51_2
noncomputable def q51_3 : List Oper := opsOf n51_3
noncomputable def n51_4 : Code := cr n51_2
noncomputable def n51_5 : Code := cl n51_4
noncomputable def n51_6 : Code := cl n51_5
noncomputable def q51_6 : List Oper := opsOf n51_6
noncomputable def n51_7 : Code := cr n51_5
noncomputable def n51_8 : Code := cl n51_7
noncomputable def n51_9 : Code := cl n51_8
noncomputable def n51_10 : Code := cl n51_9
noncomputable def q51_10 : List Oper := opsOf n51_10
noncomputable def n51_11 : Code := cr n51_9
noncomputable def n51_12 : Code := cl n51_11
noncomputable def n51_13 : Code := cl n51_12
noncomputable def n51_14 : Code := cr n51_12
noncomputable def n51_15 : Code := cr n51_11
noncomputable def n51_16 : Code := cl n51_15
noncomputable def n51_17 : Code := cl n51_16
noncomputable def n51_18 : Code := cl n51_17
noncomputable def q51_18 : List Oper := opsOf n51_18
noncomputable def n51_19 : Code := cr n51_17
noncomputable def n51_20 : Code := cl n51_19
noncomputable def q51_20 : List Oper := opsOf n51_20
noncomputable def n51_21 : Code := cr n51_19
noncomputable def n51_22 : Code := cl n51_21
noncomputable def q51_22 : List Oper := opsOf n51_22
noncomputable def n51_23 : Code := cr n51_21
noncomputable def n51_24 : Code := cl n51_23
noncomputable def n51_25 : Code := cl n51_24
noncomputable def q51_25 : List Oper := opsOf n51_25
noncomputable def n51_26 : Code := cr n51_24
noncomputable def n51_27 : Code := cr n51_23
noncomputable def n51_28 : Code := cr n51_15
noncomputable def q51_28 : List Oper := opsOf n51_28
noncomputable def n51_29 : Code := cr n51_4
noncomputable def n51_30 : Code := cl n51_29
noncomputable def q51_30 : List Oper := opsOf n51_30
noncomputable def n51_31 : Code := cr n51_29
theorem body51 : Try.f51.body = some n51_0 := by kernel_rfl
theorem run51 (E : Ev) (args : List Value) (h : List Blk) (hl : args.length ≤ 29) : runB Try.prog E 51 args h = endS Try.prog [.tmp 4] h.length (codeB Try.prog E ⟨51, 29, h.length, none⟩ n51_0 ⟨enumT 0 args, h, []⟩) := GE.run_step Try.func51 body51 (by kernel_rfl) (by decide) (by kernel_rfl) hl
theorem n51_1s : codeB Try.prog E ⟨f, 29, b, ro⟩ n51_1 st = plainS (runOps Try.prog E b q51_1 (ops [false] Try.f51) st) := GE.region_step (id := 0) (GE.reg_of (by kernel_rfl)) (by kernel_rfl)
theorem n51_3s : codeB Try.prog E ⟨f, 29, b, ro⟩ n51_3 st = plainS (runOps Try.prog E b q51_3 (ops [true, false] Try.f51) st) := GE.region_step (id := 1) (GE.reg_of (by kernel_rfl)) (by kernel_rfl)
theorem n51_6s : codeB Try.prog E ⟨f, 29, b, ro⟩ n51_6 st = plainS (runOps Try.prog E b q51_6 (ops [true, true, false, false] Try.f51) st) := GE.region_step (id := 2) (GE.reg_of (by kernel_rfl)) (by kernel_rfl)
theorem n51_10s : codeB Try.prog E ⟨f, 29, b, ro⟩ n51_10 st = plainS (runOps Try.prog E b q51_10 (ops [true, true, false, true, false, false, false] Try.f51) st) := GE.region_step (id := 3) (GE.reg_of (by kernel_rfl)) (by kernel_rfl)
theorem n51_13s : codeB Try.prog E cx n51_13 st = some (.normal, st) := GE.skip_step (by kernel_rfl)
theorem n51_14s : codeB Try.prog LL ⟨51, 29, b, ro⟩ n51_14 st = normS b ⟨[], []⟩ (.exit 0) st := GE.exit_step (by kernel_rfl) (by kernel_rfl)
theorem n51_12s : codeB Try.prog E cx n51_12 st = condS (codeB Try.prog E cx n51_13) (codeB Try.prog E cx n51_14) (lk st.σ 11) st := GE.cond_step (c := .tmp 11) (by kernel_rfl)
theorem n51_18s : codeB Try.prog E ⟨f, 29, b, ro⟩ n51_18 st = plainS (runOps Try.prog E b q51_18 (ops [true, true, false, true, false, false, true, true, false, false, false] Try.f51) st) := GE.region_step (id := 4) (GE.reg_of (by kernel_rfl)) (by kernel_rfl)
theorem n51_20s : codeB Try.prog E ⟨f, 29, b, ro⟩ n51_20 st = plainS (runOps Try.prog E b q51_20 (ops [true, true, false, true, false, false, true, true, false, false, true, false] Try.f51) st) := GE.region_step (id := 5) (GE.reg_of (by kernel_rfl)) (by kernel_rfl)
theorem n51_22s : codeB Try.prog E ⟨f, 29, b, ro⟩ n51_22 st = plainS (runOps Try.prog E b q51_22 (ops [true, true, false, true, false, false, true, true, false, false, true, true, false] Try.f51) st) := GE.region_step (id := 6) (GE.reg_of (by kernel_rfl)) (by kernel_rfl)
theorem n51_25s : codeB Try.prog E ⟨f, 29, b, ro⟩ n51_25 st = plainS (runOps Try.prog E b q51_25 (ops [true, true, false, true, false, false, true, true, false, false, true, true, true, false, false] Try.f51) st) := GE.region_step (id := 7) (GE.reg_of (by kernel_rfl)) (by kernel_rfl)
theorem n51_26s : codeB Try.prog LL ⟨51, 29, b, ro⟩ n51_26 st = normS b ⟨[4], []⟩ .ret st := GE.ret_step (by kernel_rfl) (by kernel_rfl)
theorem n51_24s : codeB Try.prog E cx n51_24 st = thenS (codeB Try.prog E cx n51_25 st) (codeB Try.prog E cx n51_26) := GE.seq_step (by kernel_rfl)
theorem n51_27s : codeB Try.prog E cx n51_27 st = some (.normal, st) := GE.skip_step (by kernel_rfl)
theorem n51_23s : codeB Try.prog E cx n51_23 st = condS (codeB Try.prog E cx n51_24) (codeB Try.prog E cx n51_27) (lk st.σ 27) st := GE.cond_step (c := .tmp 27) (by kernel_rfl)
theorem n51_21s : codeB Try.prog E cx n51_21 st = thenS (codeB Try.prog E cx n51_22 st) (codeB Try.prog E cx n51_23) := GE.seq_step (by kernel_rfl)
theorem n51_19s : codeB Try.prog E cx n51_19 st = thenS (codeB Try.prog E cx n51_20 st) (codeB Try.prog E cx n51_21) := GE.seq_step (by kernel_rfl)
theorem n51_17s : codeB Try.prog E cx n51_17 st = thenS (codeB Try.prog E cx n51_18 st) (codeB Try.prog E cx n51_19) := GE.seq_step (by kernel_rfl)
theorem n51_16s : codeB Try.prog E cx n51_16 st = blockS 1 (codeB Try.prog E cx n51_17 st) st := GE.block_step (by kernel_rfl)
theorem n51_28s : codeB Try.prog E ⟨f, 29, b, ro⟩ n51_28 st = plainS (runOps Try.prog E b q51_28 (ops [true, true, false, true, false, false, true, true, true] Try.f51) st) := GE.region_step (id := 8) (GE.reg_of (by kernel_rfl)) (by kernel_rfl)
theorem n51_15s : codeB Try.prog E cx n51_15 st = thenS (codeB Try.prog E cx n51_16 st) (codeB Try.prog E cx n51_28) := GE.seq_step (by kernel_rfl)
theorem n51_11s : codeB Try.prog E cx n51_11 st = thenS (codeB Try.prog E cx n51_12 st) (codeB Try.prog E cx n51_15) := GE.seq_step (by kernel_rfl)
theorem n51_9s : codeB Try.prog E cx n51_9 st = thenS (codeB Try.prog E cx n51_10 st) (codeB Try.prog E cx n51_11) := GE.seq_step (by kernel_rfl)
theorem n51_8k : LL.kp (⟨51, 29, b, ro⟩ : Cx).fn (4 * rid n51_9 + 3) = some ⟨[0, 5, 8, 9, 10], [⟨0, 0, 2, true⟩, ⟨8, 0, 1, true⟩]⟩ := by kernel_rfl
theorem n51_8s : codeB Try.prog LL ⟨51, 29, b, ro⟩ n51_8 st = headS b ⟨[0, 5, 8, 9, 10], [⟨0, 0, 2, true⟩, ⟨8, 0, 1, true⟩]⟩ st (lpB Try.prog LL ⟨51, 29, b, ro⟩ n51_8 n51_9) := GE.lpB_step (by kernel_rfl) (n51_8k b ro)
theorem n51_8g : LL.code ⟨51, 29, b, ro⟩ n51_8 st = headS b ⟨[0, 5, 8, 9, 10], [⟨0, 0, 2, true⟩, ⟨8, 0, 1, true⟩]⟩ st (lpB Try.prog LL ⟨51, 29, b, ro⟩ n51_8 n51_9) := GE.lpB_again (by kernel_rfl) (n51_8k b ro)
theorem n51_7s : codeB Try.prog E cx n51_7 st = blockS 0 (codeB Try.prog E cx n51_8 st) st := GE.block_step (by kernel_rfl)
theorem n51_5s : codeB Try.prog E cx n51_5 st = thenS (codeB Try.prog E cx n51_6 st) (codeB Try.prog E cx n51_7) := GE.seq_step (by kernel_rfl)
theorem n51_30s : codeB Try.prog E ⟨f, 29, b, ro⟩ n51_30 st = plainS (runOps Try.prog E b q51_30 (ops [true, true, true, false] Try.f51) st) := GE.region_step (id := 9) (GE.reg_of (by kernel_rfl)) (by kernel_rfl)
theorem n51_31s : codeB Try.prog LL ⟨51, 29, b, ro⟩ n51_31 st = normS b ⟨[4], []⟩ .ret st := GE.ret_step (by kernel_rfl) (by kernel_rfl)
theorem n51_29s : codeB Try.prog E cx n51_29 st = thenS (codeB Try.prog E cx n51_30 st) (codeB Try.prog E cx n51_31) := GE.seq_step (by kernel_rfl)
theorem n51_4s : codeB Try.prog E cx n51_4 st = thenS (codeB Try.prog E cx n51_5 st) (codeB Try.prog E cx n51_29) := GE.seq_step (by kernel_rfl)
theorem n51_2s : codeB Try.prog E cx n51_2 st = thenS (codeB Try.prog E cx n51_3 st) (codeB Try.prog E cx n51_4) := GE.seq_step (by kernel_rfl)
theorem n51_0s : codeB Try.prog E cx n51_0 st = thenS (codeB Try.prog E cx n51_1 st) (codeB Try.prog E cx n51_2) := GE.seq_step (by kernel_rfl)
noncomputable def n53_0 : Code := bodyOf Try.f53
noncomputable def n53_1 : Code := cl n53_0
noncomputable def q53_1 : List Oper := opsOf n53_1
noncomputable def n53_2 : Code := cr n53_0
noncomputable def n53_3 : Code := cl n53_2
noncomputable def n53_4 : Code := cl n53_3
noncomputable def q53_4 : List Oper := opsOf n53_4
noncomputable def n53_5 : Code := cr n53_3
noncomputable def n53_6 : Code := cl n53_5
noncomputable def n53_7 : Code := cl n53_6
noncomputable def q53_7 : List Oper := opsOf n53_7
noncomputable def n53_8 : Code := cr n53_6
noncomputable def n53_9 : Code := cr n53_5
noncomputable def n53_10 : Code := cr n53_2
noncomputable def n53_11 : Code := cl n53_10
noncomputable def q53_11 : List Oper := opsOf n53_11
noncomputable def n53_12 : Code := cr n53_10
noncomputable def n53_13 : Code := cl n53_12
noncomputable def n53_14 : Code := cl n53_13
noncomputable def q53_14 : List Oper := opsOf n53_14
noncomputable def n53_15 : Code := cr n53_13
noncomputable def n53_16 : Code := cl n53_15
noncomputable def n53_17 : Code := cl n53_16
noncomputable def n53_18 : Code := cl n53_17
noncomputable def q53_18 : List Oper := opsOf n53_18
noncomputable def n53_19 : Code := cr n53_17
noncomputable def n53_20 : Code := cl n53_19
noncomputable def n53_21 : Code := cl n53_20
noncomputable def n53_22 : Code := cr n53_20
noncomputable def n53_23 : Code := cr n53_19
noncomputable def n53_24 : Code := cl n53_23
noncomputable def n53_25 : Code := cl n53_24
noncomputable def n53_26 : Code := cl n53_25
noncomputable def q53_26 : List Oper := opsOf n53_26
noncomputable def n53_27 : Code := cr n53_25
noncomputable def n53_28 : Code := cl n53_27
noncomputable def q53_28 : List Oper := opsOf n53_28
noncomputable def n53_29 : Code := cr n53_27
noncomputable def n53_30 : Code := cl n53_29
noncomputable def n53_31 : Code := cl n53_30
noncomputable def q53_31 : List Oper := opsOf n53_31
noncomputable def n53_32 : Code := cr n53_30
noncomputable def n53_33 : Code := cr n53_29
noncomputable def n53_34 : Code := cr n53_23
noncomputable def q53_34 : List Oper := opsOf n53_34
noncomputable def n53_35 : Code := cr n53_12
noncomputable def n53_36 : Code := cl n53_35
noncomputable def q53_36 : List Oper := opsOf n53_36
noncomputable def n53_37 : Code := cr n53_35
theorem body53 : Try.f53.body = some n53_0 := by kernel_rfl
theorem run53 (E : Ev) (args : List Value) (h : List Blk) (hl : args.length ≤ 30) : runB Try.prog E 53 args h = endS Try.prog [.tmp 6] h.length (codeB Try.prog E ⟨53, 30, h.length, none⟩ n53_0 ⟨enumT 0 args, h, []⟩) := GE.run_step Try.func53 body53 (by kernel_rfl) (by decide) (by kernel_rfl) hl
theorem n53_1s : codeB Try.prog E ⟨f, 30, b, ro⟩ n53_1 st = plainS (runOps Try.prog E b q53_1 (ops [false] Try.f53) st) := GE.region_step (id := 0) (GE.reg_of (by kernel_rfl)) (by kernel_rfl)
theorem n53_4s : codeB Try.prog E ⟨f, 30, b, ro⟩ n53_4 st = plainS (runOps Try.prog E b q53_4 (ops [true, false, false] Try.f53) st) := GE.region_step (id := 1) (GE.reg_of (by kernel_rfl)) (by kernel_rfl)
theorem n53_7s : codeB Try.prog E ⟨f, 30, b, ro⟩ n53_7 st = plainS (runOps Try.prog E b q53_7 (ops [true, false, true, false, false] Try.f53) st) := GE.region_step (id := 2) (GE.reg_of (by kernel_rfl)) (by kernel_rfl)
theorem n53_8s : codeB Try.prog LL ⟨53, 30, b, ro⟩ n53_8 st = normS b ⟨[6], []⟩ .ret st := GE.ret_step (by kernel_rfl) (by kernel_rfl)
theorem n53_6s : codeB Try.prog E cx n53_6 st = thenS (codeB Try.prog E cx n53_7 st) (codeB Try.prog E cx n53_8) := GE.seq_step (by kernel_rfl)
theorem n53_9s : codeB Try.prog E cx n53_9 st = some (.normal, st) := GE.skip_step (by kernel_rfl)
theorem n53_5s : codeB Try.prog E cx n53_5 st = condS (codeB Try.prog E cx n53_6) (codeB Try.prog E cx n53_9) (lk st.σ 11) st := GE.cond_step (c := .tmp 11) (by kernel_rfl)
theorem n53_3s : codeB Try.prog E cx n53_3 st = thenS (codeB Try.prog E cx n53_4 st) (codeB Try.prog E cx n53_5) := GE.seq_step (by kernel_rfl)
theorem n53_11s : codeB Try.prog E ⟨f, 30, b, ro⟩ n53_11 st = plainS (runOps Try.prog E b q53_11 (ops [true, true, false] Try.f53) st) := GE.region_step (id := 3) (GE.reg_of (by kernel_rfl)) (by kernel_rfl)
theorem n53_14s : codeB Try.prog E ⟨f, 30, b, ro⟩ n53_14 st = plainS (runOps Try.prog E b q53_14 (ops [true, true, true, false, false] Try.f53) st) := GE.region_step (id := 4) (GE.reg_of (by kernel_rfl)) (by kernel_rfl)
theorem n53_18s : codeB Try.prog E ⟨f, 30, b, ro⟩ n53_18 st = plainS (runOps Try.prog E b q53_18 (ops [true, true, true, false, true, false, false, false] Try.f53) st) := GE.region_step (id := 5) (GE.reg_of (by kernel_rfl)) (by kernel_rfl)
theorem n53_21s : codeB Try.prog E cx n53_21 st = some (.normal, st) := GE.skip_step (by kernel_rfl)
theorem n53_22s : codeB Try.prog LL ⟨53, 30, b, ro⟩ n53_22 st = normS b ⟨[], []⟩ (.exit 0) st := GE.exit_step (by kernel_rfl) (by kernel_rfl)
theorem n53_20s : codeB Try.prog E cx n53_20 st = condS (codeB Try.prog E cx n53_21) (codeB Try.prog E cx n53_22) (lk st.σ 17) st := GE.cond_step (c := .tmp 17) (by kernel_rfl)
theorem n53_26s : codeB Try.prog E ⟨f, 30, b, ro⟩ n53_26 st = plainS (runOps Try.prog E b q53_26 (ops [true, true, true, false, true, false, false, true, true, false, false, false] Try.f53) st) := GE.region_step (id := 6) (GE.reg_of (by kernel_rfl)) (by kernel_rfl)
theorem q53_28g4 : gd q53_28 4 = some 23 := by kernel_rfl
theorem n53_28s : codeB Try.prog E ⟨f, 30, b, ro⟩ n53_28 st = plainS (runOps Try.prog E b q53_28 (ops [true, true, true, false, true, false, false, true, true, false, false, true, false] Try.f53) st) := GE.region_step (id := 7) (GE.reg_of (by kernel_rfl)) (by kernel_rfl)
theorem n53_31s : codeB Try.prog E ⟨f, 30, b, ro⟩ n53_31 st = plainS (runOps Try.prog E b q53_31 (ops [true, true, true, false, true, false, false, true, true, false, false, true, true, false, false] Try.f53) st) := GE.region_step (id := 8) (GE.reg_of (by kernel_rfl)) (by kernel_rfl)
theorem n53_32s : codeB Try.prog LL ⟨53, 30, b, ro⟩ n53_32 st = normS b ⟨[6], []⟩ .ret st := GE.ret_step (by kernel_rfl) (by kernel_rfl)
theorem n53_30s : codeB Try.prog E cx n53_30 st = thenS (codeB Try.prog E cx n53_31 st) (codeB Try.prog E cx n53_32) := GE.seq_step (by kernel_rfl)
theorem n53_33s : codeB Try.prog E cx n53_33 st = some (.normal, st) := GE.skip_step (by kernel_rfl)
theorem n53_29s : codeB Try.prog E cx n53_29 st = condS (codeB Try.prog E cx n53_30) (codeB Try.prog E cx n53_33) (lk st.σ 28) st := GE.cond_step (c := .tmp 28) (by kernel_rfl)
theorem n53_27s : codeB Try.prog E cx n53_27 st = thenS (codeB Try.prog E cx n53_28 st) (codeB Try.prog E cx n53_29) := GE.seq_step (by kernel_rfl)
theorem n53_25s : codeB Try.prog E cx n53_25 st = thenS (codeB Try.prog E cx n53_26 st) (codeB Try.prog E cx n53_27) := GE.seq_step (by kernel_rfl)
theorem n53_24s : codeB Try.prog E cx n53_24 st = blockS 1 (codeB Try.prog E cx n53_25 st) st := GE.block_step (by kernel_rfl)
theorem n53_34s : codeB Try.prog E ⟨f, 30, b, ro⟩ n53_34 st = plainS (runOps Try.prog E b q53_34 (ops [true, true, true, false, true, false, false, true, true, true] Try.f53) st) := GE.region_step (id := 9) (GE.reg_of (by kernel_rfl)) (by kernel_rfl)
theorem n53_23s : codeB Try.prog E cx n53_23 st = thenS (codeB Try.prog E cx n53_24 st) (codeB Try.prog E cx n53_34) := GE.seq_step (by kernel_rfl)
theorem n53_19s : codeB Try.prog E cx n53_19 st = thenS (codeB Try.prog E cx n53_20 st) (codeB Try.prog E cx n53_23) := GE.seq_step (by kernel_rfl)
theorem n53_17s : codeB Try.prog E cx n53_17 st = thenS (codeB Try.prog E cx n53_18 st) (codeB Try.prog E cx n53_19) := GE.seq_step (by kernel_rfl)
theorem n53_16k : LL.kp (⟨53, 30, b, ro⟩ : Cx).fn (4 * rid n53_17 + 3) = some ⟨[1, 2, 7, 15, 16], []⟩ := by kernel_rfl
theorem n53_16s : codeB Try.prog LL ⟨53, 30, b, ro⟩ n53_16 st = headS b ⟨[1, 2, 7, 15, 16], []⟩ st (lpB Try.prog LL ⟨53, 30, b, ro⟩ n53_16 n53_17) := GE.lpB_step (by kernel_rfl) (n53_16k b ro)
theorem n53_16g : LL.code ⟨53, 30, b, ro⟩ n53_16 st = headS b ⟨[1, 2, 7, 15, 16], []⟩ st (lpB Try.prog LL ⟨53, 30, b, ro⟩ n53_16 n53_17) := GE.lpB_again (by kernel_rfl) (n53_16k b ro)
theorem n53_15s : codeB Try.prog E cx n53_15 st = blockS 0 (codeB Try.prog E cx n53_16 st) st := GE.block_step (by kernel_rfl)
theorem n53_13s : codeB Try.prog E cx n53_13 st = thenS (codeB Try.prog E cx n53_14 st) (codeB Try.prog E cx n53_15) := GE.seq_step (by kernel_rfl)
theorem n53_36s : codeB Try.prog E ⟨f, 30, b, ro⟩ n53_36 st = plainS (runOps Try.prog E b q53_36 (ops [true, true, true, true, false] Try.f53) st) := GE.region_step (id := 10) (GE.reg_of (by kernel_rfl)) (by kernel_rfl)
theorem n53_37s : codeB Try.prog LL ⟨53, 30, b, ro⟩ n53_37 st = normS b ⟨[6], []⟩ .ret st := GE.ret_step (by kernel_rfl) (by kernel_rfl)
theorem n53_35s : codeB Try.prog E cx n53_35 st = thenS (codeB Try.prog E cx n53_36 st) (codeB Try.prog E cx n53_37) := GE.seq_step (by kernel_rfl)
theorem n53_12s : codeB Try.prog E cx n53_12 st = thenS (codeB Try.prog E cx n53_13 st) (codeB Try.prog E cx n53_35) := GE.seq_step (by kernel_rfl)
theorem n53_10s : codeB Try.prog E cx n53_10 st = thenS (codeB Try.prog E cx n53_11 st) (codeB Try.prog E cx n53_12) := GE.seq_step (by kernel_rfl)
theorem n53_2s : codeB Try.prog E cx n53_2 st = thenS (codeB Try.prog E cx n53_3 st) (codeB Try.prog E cx n53_10) := GE.seq_step (by kernel_rfl)
theorem n53_0s : codeB Try.prog E cx n53_0 st = thenS (codeB Try.prog E cx n53_1 st) (codeB Try.prog E cx n53_2) := GE.seq_step (by kernel_rfl)
noncomputable def n54_0 : Code := bodyOf Try.f54
noncomputable def n54_1 : Code := cl n54_0
noncomputable def q54_1 : List Oper := opsOf n54_1
noncomputable def n54_2 : Code := cr n54_0
noncomputable def n54_3 : Code := cl n54_2
noncomputable def q54_3 : List Oper := opsOf n54_3
noncomputable def n54_4 : Code := cr n54_2
theorem body54 : Try.f54.body = some n54_0 := by kernel_rfl
theorem run54 (E : Ev) (args : List Value) (h : List Blk) (hl : args.length ≤ 9) : runB Try.prog E 54 args h = endS Try.prog [.tmp 4] h.length (codeB Try.prog E ⟨54, 9, h.length, none⟩ n54_0 ⟨enumT 0 args, h, []⟩) := GE.run_step Try.func54 body54 (by kernel_rfl) (by decide) (by kernel_rfl) hl
theorem n54_1s : codeB Try.prog E ⟨f, 9, b, ro⟩ n54_1 st = plainS (runOps Try.prog E b q54_1 (ops [false] Try.f54) st) := GE.region_step (id := 0) (GE.reg_of (by kernel_rfl)) (by kernel_rfl)
theorem n54_3s : codeB Try.prog E ⟨f, 9, b, ro⟩ n54_3 st = plainS (runOps Try.prog E b q54_3 (ops [true, false] Try.f54) st) := GE.region_step (id := 1) (GE.reg_of (by kernel_rfl)) (by kernel_rfl)
theorem n54_4s : codeB Try.prog LL ⟨54, 9, b, ro⟩ n54_4 st = normS b ⟨[4], []⟩ .ret st := GE.ret_step (by kernel_rfl) (by kernel_rfl)
theorem n54_2s : codeB Try.prog E cx n54_2 st = thenS (codeB Try.prog E cx n54_3 st) (codeB Try.prog E cx n54_4) := GE.seq_step (by kernel_rfl)
theorem n54_0s : codeB Try.prog E cx n54_0 st = thenS (codeB Try.prog E cx n54_1 st) (codeB Try.prog E cx n54_2) := GE.seq_step (by kernel_rfl)
noncomputable def n57_0 : Code := bodyOf Try.f57
noncomputable def n57_1 : Code := cl n57_0
noncomputable def q57_1 : List Oper := opsOf n57_1
noncomputable def n57_2 : Code := cr n57_0
noncomputable def n57_3 : Code := cl n57_2
noncomputable def q57_3 : List Oper := opsOf n57_3
noncomputable def n57_4 : Code := cr n57_2
theorem body57 : Try.f57.body = some n57_0 := by kernel_rfl
theorem run57 (E : Ev) (args : List Value) (h : List Blk) (hl : args.length ≤ 15) : runB Try.prog E 57 args h = endS Try.prog [.tmp 6] h.length (codeB Try.prog E ⟨57, 15, h.length, none⟩ n57_0 ⟨enumT 0 args, h, []⟩) := GE.run_step Try.func57 body57 (by kernel_rfl) (by decide) (by kernel_rfl) hl
theorem n57_1s : codeB Try.prog E ⟨f, 15, b, ro⟩ n57_1 st = plainS (runOps Try.prog E b q57_1 (ops [false] Try.f57) st) := GE.region_step (id := 0) (GE.reg_of (by kernel_rfl)) (by kernel_rfl)
theorem q57_3g3 : gd q57_3 3 = some 10 := by kernel_rfl
theorem n57_3s : codeB Try.prog E ⟨f, 15, b, ro⟩ n57_3 st = plainS (runOps Try.prog E b q57_3 (ops [true, false] Try.f57) st) := GE.region_step (id := 1) (GE.reg_of (by kernel_rfl)) (by kernel_rfl)
theorem n57_4s : codeB Try.prog LL ⟨57, 15, b, ro⟩ n57_4 st = normS b ⟨[6], []⟩ .ret st := GE.ret_step (by kernel_rfl) (by kernel_rfl)
theorem n57_2s : codeB Try.prog E cx n57_2 st = thenS (codeB Try.prog E cx n57_3 st) (codeB Try.prog E cx n57_4) := GE.seq_step (by kernel_rfl)
theorem n57_0s : codeB Try.prog E cx n57_0 st = thenS (codeB Try.prog E cx n57_1 st) (codeB Try.prog E cx n57_2) := GE.seq_step (by kernel_rfl)
noncomputable def n59_0 : Code := bodyOf Try.f59
noncomputable def n59_1 : Code := cl n59_0
noncomputable def q59_1 : List Oper := opsOf n59_1
noncomputable def n59_2 : Code := cr n59_0
noncomputable def n59_3 : Code := cl n59_2
noncomputable def q59_3 : List Oper := opsOf n59_3
noncomputable def n59_4 : Code := cr n59_2
noncomputable def n59_5 : Code := cl n59_4
noncomputable def n59_6 : Code := cl n59_5
noncomputable def n59_7 : Code := cl n59_6
noncomputable def q59_7 : List Oper := opsOf n59_7
noncomputable def n59_8 : Code := cr n59_6
noncomputable def n59_9 : Code := cl n59_8
noncomputable def n59_10 : Code := cl n59_9
noncomputable def q59_10 : List Oper := opsOf n59_10
noncomputable def n59_11 : Code := cr n59_9
noncomputable def n59_12 : Code := cr n59_8
noncomputable def n59_13 : Code := cl n59_12
noncomputable def q59_13 : List Oper := opsOf n59_13
noncomputable def n59_14 : Code := cr n59_12
noncomputable def n59_15 : Code := cl n59_14
noncomputable def n59_16 : Code := cl n59_15
noncomputable def q59_16 : List Oper := opsOf n59_16
noncomputable def n59_17 : Code := cr n59_15
noncomputable def n59_18 : Code := cr n59_14
noncomputable def n59_19 : Code := cr n59_4
noncomputable def n59_20 : Code := cl n59_19
noncomputable def q59_20 : List Oper := opsOf n59_20
noncomputable def n59_21 : Code := cr n59_19
theorem body59 : Try.f59.body = some n59_0 := by kernel_rfl
theorem run59 (E : Ev) (args : List Value) (h : List Blk) (hl : args.length ≤ 17) : runB Try.prog E 59 args h = endS Try.prog [.tmp 2, .tmp 3] h.length (codeB Try.prog E ⟨59, 17, h.length, none⟩ n59_0 ⟨enumT 0 args, h, []⟩) := GE.run_step Try.func59 body59 (by kernel_rfl) (by decide) (by kernel_rfl) hl
theorem n59_1s : codeB Try.prog E ⟨f, 17, b, ro⟩ n59_1 st = plainS (runOps Try.prog E b q59_1 (ops [false] Try.f59) st) := GE.region_step (id := 0) (GE.reg_of (by kernel_rfl)) (by kernel_rfl)
theorem n59_3s : codeB Try.prog E ⟨f, 17, b, ro⟩ n59_3 st = plainS (runOps Try.prog E b q59_3 (ops [true, false] Try.f59) st) := GE.region_step (id := 1) (GE.reg_of (by kernel_rfl)) (by kernel_rfl)
theorem n59_7s : codeB Try.prog E ⟨f, 17, b, ro⟩ n59_7 st = plainS (runOps Try.prog E b q59_7 (ops [true, true, false, false, false] Try.f59) st) := GE.region_step (id := 2) (GE.reg_of (by kernel_rfl)) (by kernel_rfl)
theorem n59_10s : codeB Try.prog E ⟨f, 17, b, ro⟩ n59_10 st = plainS (runOps Try.prog E b q59_10 (ops [true, true, false, false, true, false, false] Try.f59) st) := GE.region_step (id := 3) (GE.reg_of (by kernel_rfl)) (by kernel_rfl)
theorem n59_11s : codeB Try.prog LL ⟨59, 17, b, ro⟩ n59_11 st = normS b ⟨[2, 3], []⟩ .ret st := GE.ret_step (by kernel_rfl) (by kernel_rfl)
theorem n59_9s : codeB Try.prog E cx n59_9 st = thenS (codeB Try.prog E cx n59_10 st) (codeB Try.prog E cx n59_11) := GE.seq_step (by kernel_rfl)
theorem n59_13s : codeB Try.prog E ⟨f, 17, b, ro⟩ n59_13 st = plainS (runOps Try.prog E b q59_13 (ops [true, true, false, false, true, true, false] Try.f59) st) := GE.region_step (id := 4) (GE.reg_of (by kernel_rfl)) (by kernel_rfl)
theorem n59_16s : codeB Try.prog E ⟨f, 17, b, ro⟩ n59_16 st = plainS (runOps Try.prog E b q59_16 (ops [true, true, false, false, true, true, true, false, false] Try.f59) st) := GE.region_step (id := 5) (GE.reg_of (by kernel_rfl)) (by kernel_rfl)
theorem n59_17s : codeB Try.prog LL ⟨59, 17, b, ro⟩ n59_17 st = normS b ⟨[2, 3], []⟩ .ret st := GE.ret_step (by kernel_rfl) (by kernel_rfl)
theorem n59_15s : codeB Try.prog E cx n59_15 st = thenS (codeB Try.prog E cx n59_16 st) (codeB Try.prog E cx n59_17) := GE.seq_step (by kernel_rfl)
theorem n59_18s : codeB Try.prog E cx n59_18 st = some (.normal, st) := GE.skip_step (by kernel_rfl)
theorem n59_14s : codeB Try.prog E cx n59_14 st = condS (codeB Try.prog E cx n59_15) (codeB Try.prog E cx n59_18) (lk st.σ 11) st := GE.cond_step (c := .tmp 11) (by kernel_rfl)
theorem n59_12s : codeB Try.prog E cx n59_12 st = thenS (codeB Try.prog E cx n59_13 st) (codeB Try.prog E cx n59_14) := GE.seq_step (by kernel_rfl)
theorem n59_8s : codeB Try.prog E cx n59_8 st = condS (codeB Try.prog E cx n59_9) (codeB Try.prog E cx n59_12) (lk st.σ 7) st := GE.cond_step (c := .tmp 7) (by kernel_rfl)
theorem n59_6s : codeB Try.prog E cx n59_6 st = thenS (codeB Try.prog E cx n59_7 st) (codeB Try.prog E cx n59_8) := GE.seq_step (by kernel_rfl)
theorem n59_5s : codeB Try.prog E cx n59_5 st = blockS 0 (codeB Try.prog E cx n59_6 st) st := GE.block_step (by kernel_rfl)
theorem n59_20s : codeB Try.prog E ⟨f, 17, b, ro⟩ n59_20 st = plainS (runOps Try.prog E b q59_20 (ops [true, true, true, false] Try.f59) st) := GE.region_step (id := 6) (GE.reg_of (by kernel_rfl)) (by kernel_rfl)
theorem n59_21s : codeB Try.prog LL ⟨59, 17, b, ro⟩ n59_21 st = normS b ⟨[2, 3], []⟩ .ret st := GE.ret_step (by kernel_rfl) (by kernel_rfl)
theorem n59_19s : codeB Try.prog E cx n59_19 st = thenS (codeB Try.prog E cx n59_20 st) (codeB Try.prog E cx n59_21) := GE.seq_step (by kernel_rfl)
theorem n59_4s : codeB Try.prog E cx n59_4 st = thenS (codeB Try.prog E cx n59_5 st) (codeB Try.prog E cx n59_19) := GE.seq_step (by kernel_rfl)
theorem n59_2s : codeB Try.prog E cx n59_2 st = thenS (codeB Try.prog E cx n59_3 st) (codeB Try.prog E cx n59_4) := GE.seq_step (by kernel_rfl)
theorem n59_0s : codeB Try.prog E cx n59_0 st = thenS (codeB Try.prog E cx n59_1 st) (codeB Try.prog E cx n59_2) := GE.seq_step (by kernel_rfl)
noncomputable def n60_0 : Code := bodyOf Try.f60
noncomputable def n60_1 : Code := cl n60_0
noncomputable def q60_1 : List Oper := opsOf n60_1
noncomputable def n60_2 : Code := cr n60_0
noncomputable def n60_3 : Code := cl n60_2
noncomputable def q60_3 : List Oper := opsOf n60_3
noncomputable def n60_4 : Code := cr n60_2
noncomputable def n60_5 : Code := cl n60_4
noncomputable def n60_6 : Code := cl n60_5
noncomputable def q60_6 : List Oper := opsOf n60_6
noncomputable def n60_7 : Code := cr n60_5
noncomputable def n60_8 : Code := cl n60_7
noncomputable def n60_9 : Code := cl n60_8
noncomputable def q60_9 : List Oper := opsOf n60_9
noncomputable def n60_10 : Code := cr n60_8
noncomputable def q60_10 : List Oper := opsOf n60_10
noncomputable def n60_11 : Code := cr n60_7
noncomputable def n60_12 : Code := cr n60_4
noncomputable def n60_13 : Code := cl n60_12
noncomputable def q60_13 : List Oper := opsOf n60_13
noncomputable def n60_14 : Code := cr n60_12
theorem body60 : Try.f60.body = some n60_0 := by kernel_rfl
theorem run60 (E : Ev) (args : List Value) (h : List Blk) (hl : args.length ≤ 31) : runB Try.prog E 60 args h = endS Try.prog [.tmp 4] h.length (codeB Try.prog E ⟨60, 31, h.length, none⟩ n60_0 ⟨enumT 0 args, h, []⟩) := GE.run_step Try.func60 body60 (by kernel_rfl) (by decide) (by kernel_rfl) hl
theorem n60_1s : codeB Try.prog E ⟨f, 31, b, ro⟩ n60_1 st = plainS (runOps Try.prog E b q60_1 (ops [false] Try.f60) st) := GE.region_step (id := 0) (GE.reg_of (by kernel_rfl)) (by kernel_rfl)
theorem n60_3s : codeB Try.prog E ⟨f, 31, b, ro⟩ n60_3 st = plainS (runOps Try.prog E b q60_3 (ops [true, false] Try.f60) st) := GE.region_step (id := 1) (GE.reg_of (by kernel_rfl)) (by kernel_rfl)
theorem n60_6s : codeB Try.prog E ⟨f, 31, b, ro⟩ n60_6 st = plainS (runOps Try.prog E b q60_6 (ops [true, true, false, false] Try.f60) st) := GE.region_step (id := 2) (GE.reg_of (by kernel_rfl)) (by kernel_rfl)
theorem n60_9s : codeB Try.prog E ⟨f, 31, b, ro⟩ n60_9 st = plainS (runOps Try.prog E b q60_9 (ops [true, true, false, true, false, false] Try.f60) st) := GE.region_step (id := 3) (GE.reg_of (by kernel_rfl)) (by kernel_rfl)
theorem n60_10s : codeB Try.prog E ⟨f, 31, b, ro⟩ n60_10 st = plainS (runOps Try.prog E b q60_10 (ops [true, true, false, true, false, true] Try.f60) st) := GE.region_step (id := 4) (GE.reg_of (by kernel_rfl)) (by kernel_rfl)
theorem n60_8s : codeB Try.prog E cx n60_8 st = thenS (codeB Try.prog E cx n60_9 st) (codeB Try.prog E cx n60_10) := GE.seq_step (by kernel_rfl)
theorem n60_11s : codeB Try.prog E cx n60_11 st = some (.normal, st) := GE.skip_step (by kernel_rfl)
theorem n60_7s : codeB Try.prog E cx n60_7 st = condS (codeB Try.prog E cx n60_8) (codeB Try.prog E cx n60_11) (lk st.σ 17) st := GE.cond_step (c := .tmp 17) (by kernel_rfl)
theorem n60_5s : codeB Try.prog E cx n60_5 st = thenS (codeB Try.prog E cx n60_6 st) (codeB Try.prog E cx n60_7) := GE.seq_step (by kernel_rfl)
theorem n60_13s : codeB Try.prog E ⟨f, 31, b, ro⟩ n60_13 st = plainS (runOps Try.prog E b q60_13 (ops [true, true, true, false] Try.f60) st) := GE.region_step (id := 5) (GE.reg_of (by kernel_rfl)) (by kernel_rfl)
theorem n60_14s : codeB Try.prog LL ⟨60, 31, b, ro⟩ n60_14 st = normS b ⟨[4], []⟩ .ret st := GE.ret_step (by kernel_rfl) (by kernel_rfl)
theorem n60_12s : codeB Try.prog E cx n60_12 st = thenS (codeB Try.prog E cx n60_13 st) (codeB Try.prog E cx n60_14) := GE.seq_step (by kernel_rfl)
theorem n60_4s : codeB Try.prog E cx n60_4 st = thenS (codeB Try.prog E cx n60_5 st) (codeB Try.prog E cx n60_12) := GE.seq_step (by kernel_rfl)
theorem n60_2s : codeB Try.prog E cx n60_2 st = thenS (codeB Try.prog E cx n60_3 st) (codeB Try.prog E cx n60_4) := GE.seq_step (by kernel_rfl)
theorem n60_0s : codeB Try.prog E cx n60_0 st = thenS (codeB Try.prog E cx n60_1 st) (codeB Try.prog E cx n60_2) := GE.seq_step (by kernel_rfl)
noncomputable def n64_0 : Code := bodyOf Try.f64
noncomputable def n64_1 : Code := cl n64_0
noncomputable def q64_1 : List Oper := opsOf n64_1
noncomputable def n64_2 : Code := cr n64_0
noncomputable def n64_3 : Code := cl n64_2
noncomputable def q64_3 : List Oper := opsOf n64_3
noncomputable def n64_4 : Code := cr n64_2
noncomputable def n64_5 : Code := cl n64_4
noncomputable def n64_6 : Code := cl n64_5
noncomputable def q64_6 : List Oper := opsOf n64_6
noncomputable def n64_7 : Code := cr n64_5
noncomputable def n64_8 : Code := cl n64_7
noncomputable def n64_9 : Code := cl n64_8
noncomputable def n64_10 : Code := cl n64_9
noncomputable def q64_10 : List Oper := opsOf n64_10
noncomputable def n64_11 : Code := cr n64_9
noncomputable def n64_12 : Code := cl n64_11
noncomputable def n64_13 : Code := cl n64_12
noncomputable def n64_14 : Code := cr n64_12
noncomputable def n64_15 : Code := cr n64_11
noncomputable def n64_16 : Code := cl n64_15
noncomputable def n64_17 : Code := cl n64_16
noncomputable def n64_18 : Code := cl n64_17
noncomputable def q64_18 : List Oper := opsOf n64_18
noncomputable def n64_19 : Code := cr n64_17
noncomputable def n64_20 : Code := cl n64_19
noncomputable def q64_20 : List Oper := opsOf n64_20
noncomputable def n64_21 : Code := cr n64_19
noncomputable def n64_22 : Code := cl n64_21
noncomputable def q64_22 : List Oper := opsOf n64_22
noncomputable def n64_23 : Code := cr n64_21
noncomputable def n64_24 : Code := cr n64_15
noncomputable def q64_24 : List Oper := opsOf n64_24
noncomputable def n64_25 : Code := cr n64_4
noncomputable def n64_26 : Code := cl n64_25
noncomputable def q64_26 : List Oper := opsOf n64_26
noncomputable def n64_27 : Code := cr n64_25
theorem body64 : Try.f64.body = some n64_0 := by kernel_rfl
theorem run64 (E : Ev) (args : List Value) (h : List Blk) (hl : args.length ≤ 35) : runB Try.prog E 64 args h = endS Try.prog [.tmp 4] h.length (codeB Try.prog E ⟨64, 35, h.length, none⟩ n64_0 ⟨enumT 0 args, h, []⟩) := GE.run_step Try.func64 body64 (by kernel_rfl) (by decide) (by kernel_rfl) hl
theorem n64_1s : codeB Try.prog E ⟨f, 35, b, ro⟩ n64_1 st = plainS (runOps Try.prog E b q64_1 (ops [false] Try.f64) st) := GE.region_step (id := 0) (GE.reg_of (by kernel_rfl)) (by kernel_rfl)
theorem n64_3s : codeB Try.prog E ⟨f, 35, b, ro⟩ n64_3 st = plainS (runOps Try.prog E b q64_3 (ops [true, false] Try.f64) st) := GE.region_step (id := 1) (GE.reg_of (by kernel_rfl)) (by kernel_rfl)
theorem n64_6s : codeB Try.prog E ⟨f, 35, b, ro⟩ n64_6 st = plainS (runOps Try.prog E b q64_6 (ops [true, true, false, false] Try.f64) st) := GE.region_step (id := 2) (GE.reg_of (by kernel_rfl)) (by kernel_rfl)
theorem n64_10s : codeB Try.prog E ⟨f, 35, b, ro⟩ n64_10 st = plainS (runOps Try.prog E b q64_10 (ops [true, true, false, true, false, false, false] Try.f64) st) := GE.region_step (id := 3) (GE.reg_of (by kernel_rfl)) (by kernel_rfl)
theorem n64_13s : codeB Try.prog E cx n64_13 st = some (.normal, st) := GE.skip_step (by kernel_rfl)
theorem n64_14s : codeB Try.prog LL ⟨64, 35, b, ro⟩ n64_14 st = normS b ⟨[5], [⟨5, 0, 1, true⟩]⟩ (.exit 0) st := GE.exit_step (by kernel_rfl) (by kernel_rfl)
theorem n64_12s : codeB Try.prog E cx n64_12 st = condS (codeB Try.prog E cx n64_13) (codeB Try.prog E cx n64_14) (lk st.σ 14) st := GE.cond_step (c := .tmp 14) (by kernel_rfl)
theorem n64_18s : codeB Try.prog E ⟨f, 35, b, ro⟩ n64_18 st = plainS (runOps Try.prog E b q64_18 (ops [true, true, false, true, false, false, true, true, false, false, false] Try.f64) st) := GE.region_step (id := 4) (GE.reg_of (by kernel_rfl)) (by kernel_rfl)
theorem q64_20g4 : gd q64_20 4 = some 20 := by kernel_rfl
theorem n64_20s : codeB Try.prog E ⟨f, 35, b, ro⟩ n64_20 st = plainS (runOps Try.prog E b q64_20 (ops [true, true, false, true, false, false, true, true, false, false, true, false] Try.f64) st) := GE.region_step (id := 5) (GE.reg_of (by kernel_rfl)) (by kernel_rfl)
theorem n64_22s : codeB Try.prog E ⟨f, 35, b, ro⟩ n64_22 st = plainS (runOps Try.prog E b q64_22 (ops [true, true, false, true, false, false, true, true, false, false, true, true, false] Try.f64) st) := GE.region_step (id := 6) (GE.reg_of (by kernel_rfl)) (by kernel_rfl)
theorem n64_23s : codeB Try.prog E cx n64_23 st = some (.normal, st) := GE.skip_step (by kernel_rfl)
theorem n64_21s : codeB Try.prog E cx n64_21 st = condS (codeB Try.prog E cx n64_22) (codeB Try.prog E cx n64_23) (lk st.σ 28) st := GE.cond_step (c := .tmp 28) (by kernel_rfl)
theorem n64_19s : codeB Try.prog E cx n64_19 st = thenS (codeB Try.prog E cx n64_20 st) (codeB Try.prog E cx n64_21) := GE.seq_step (by kernel_rfl)
theorem n64_17s : codeB Try.prog E cx n64_17 st = thenS (codeB Try.prog E cx n64_18 st) (codeB Try.prog E cx n64_19) := GE.seq_step (by kernel_rfl)
theorem n64_16s : codeB Try.prog E cx n64_16 st = blockS 1 (codeB Try.prog E cx n64_17 st) st := GE.block_step (by kernel_rfl)
theorem n64_24s : codeB Try.prog E ⟨f, 35, b, ro⟩ n64_24 st = plainS (runOps Try.prog E b q64_24 (ops [true, true, false, true, false, false, true, true, true] Try.f64) st) := GE.region_step (id := 7) (GE.reg_of (by kernel_rfl)) (by kernel_rfl)
theorem n64_15s : codeB Try.prog E cx n64_15 st = thenS (codeB Try.prog E cx n64_16 st) (codeB Try.prog E cx n64_24) := GE.seq_step (by kernel_rfl)
theorem n64_11s : codeB Try.prog E cx n64_11 st = thenS (codeB Try.prog E cx n64_12 st) (codeB Try.prog E cx n64_15) := GE.seq_step (by kernel_rfl)
theorem n64_9s : codeB Try.prog E cx n64_9 st = thenS (codeB Try.prog E cx n64_10 st) (codeB Try.prog E cx n64_11) := GE.seq_step (by kernel_rfl)
theorem n64_8k : LL.kp (⟨64, 35, b, ro⟩ : Cx).fn (4 * rid n64_9 + 3) = some ⟨[0, 1, 5, 12, 13], [⟨5, 0, 1, true⟩]⟩ := by kernel_rfl
theorem n64_8s : codeB Try.prog LL ⟨64, 35, b, ro⟩ n64_8 st = headS b ⟨[0, 1, 5, 12, 13], [⟨5, 0, 1, true⟩]⟩ st (lpB Try.prog LL ⟨64, 35, b, ro⟩ n64_8 n64_9) := GE.lpB_step (by kernel_rfl) (n64_8k b ro)
theorem n64_8g : LL.code ⟨64, 35, b, ro⟩ n64_8 st = headS b ⟨[0, 1, 5, 12, 13], [⟨5, 0, 1, true⟩]⟩ st (lpB Try.prog LL ⟨64, 35, b, ro⟩ n64_8 n64_9) := GE.lpB_again (by kernel_rfl) (n64_8k b ro)
theorem n64_7s : codeB Try.prog E cx n64_7 st = blockS 0 (codeB Try.prog E cx n64_8 st) st := GE.block_step (by kernel_rfl)
theorem n64_5s : codeB Try.prog E cx n64_5 st = thenS (codeB Try.prog E cx n64_6 st) (codeB Try.prog E cx n64_7) := GE.seq_step (by kernel_rfl)
theorem n64_26s : codeB Try.prog E ⟨f, 35, b, ro⟩ n64_26 st = plainS (runOps Try.prog E b q64_26 (ops [true, true, true, false] Try.f64) st) := GE.region_step (id := 8) (GE.reg_of (by kernel_rfl)) (by kernel_rfl)
theorem n64_27s : codeB Try.prog LL ⟨64, 35, b, ro⟩ n64_27 st = normS b ⟨[4], [⟨4, 0, 1, true⟩]⟩ .ret st := GE.ret_step (by kernel_rfl) (by kernel_rfl)
theorem n64_25s : codeB Try.prog E cx n64_25 st = thenS (codeB Try.prog E cx n64_26 st) (codeB Try.prog E cx n64_27) := GE.seq_step (by kernel_rfl)
theorem n64_4s : codeB Try.prog E cx n64_4 st = thenS (codeB Try.prog E cx n64_5 st) (codeB Try.prog E cx n64_25) := GE.seq_step (by kernel_rfl)
theorem n64_2s : codeB Try.prog E cx n64_2 st = thenS (codeB Try.prog E cx n64_3 st) (codeB Try.prog E cx n64_4) := GE.seq_step (by kernel_rfl)
theorem n64_0s : codeB Try.prog E cx n64_0 st = thenS (codeB Try.prog E cx n64_1 st) (codeB Try.prog E cx n64_2) := GE.seq_step (by kernel_rfl)
noncomputable def n67_0 : Code := bodyOf Try.f67
noncomputable def n67_1 : Code := cl n67_0
noncomputable def q67_1 : List Oper := opsOf n67_1
noncomputable def n67_2 : Code := cr n67_0
noncomputable def n67_3 : Code := cl n67_2
noncomputable def q67_3 : List Oper := opsOf n67_3
noncomputable def n67_4 : Code := cr n67_2
noncomputable def n67_5 : Code := cl n67_4
noncomputable def n67_6 : Code := cl n67_5
noncomputable def n67_7 : Code := cl n67_6
noncomputable def n67_8 : Code := cl n67_7
noncomputable def n67_9 : Code := cl n67_8
noncomputable def q67_9 : List Oper := opsOf n67_9
noncomputable def n67_10 : Code := cr n67_8
noncomputable def n67_11 : Code := cl n67_10
noncomputable def n67_12 : Code := cr n67_10
noncomputable def n67_13 : Code := cr n67_7
noncomputable def n67_14 : Code := cl n67_13
noncomputable def q67_14 : List Oper := opsOf n67_14
noncomputable def n67_15 : Code := cr n67_4
noncomputable def n67_16 : Code := cl n67_15
noncomputable def q67_16 : List Oper := opsOf n67_16
noncomputable def n67_17 : Code := cr n67_15
theorem body67 : Try.f67.body = some n67_0 := by kernel_rfl
theorem run67 (E : Ev) (args : List Value) (h : List Blk) (hl : args.length ≤ 22) : runB Try.prog E 67 args h = endS Try.prog [.cell 4 42] h.length (codeB Try.prog E ⟨67, 22, h.length, none⟩ n67_0 ⟨enumT 0 args, h, []⟩) := GE.run_step Try.func67 body67 (by kernel_rfl) (by decide) (by kernel_rfl) hl
theorem n67_1s : codeB Try.prog E ⟨f, 22, b, ro⟩ n67_1 st = plainS (runOps Try.prog E b q67_1 (ops [false] Try.f67) st) := GE.region_step (id := 0) (GE.reg_of (by kernel_rfl)) (by kernel_rfl)
theorem n67_3s : codeB Try.prog E ⟨f, 22, b, ro⟩ n67_3 st = plainS (runOps Try.prog E b q67_3 (ops [true, false] Try.f67) st) := GE.region_step (id := 1) (GE.reg_of (by kernel_rfl)) (by kernel_rfl)
theorem n67_9s : codeB Try.prog E ⟨f, 22, b, ro⟩ n67_9 st = plainS (runOps Try.prog E b q67_9 (ops [true, true, false, false, false, false, false] Try.f67) st) := GE.region_step (id := 2) (GE.reg_of (by kernel_rfl)) (by kernel_rfl)
theorem n67_11s : codeB Try.prog E cx n67_11 st = some (.normal, st) := GE.skip_step (by kernel_rfl)
theorem n67_12s : codeB Try.prog LL ⟨67, 22, b, ro⟩ n67_12 st = normS b ⟨[0, 1, 4, 5], []⟩ (.exit 0) st := GE.exit_step (by kernel_rfl) (by kernel_rfl)
theorem n67_10s : codeB Try.prog E cx n67_10 st = condS (codeB Try.prog E cx n67_11) (codeB Try.prog E cx n67_12) (lk st.σ 10) st := GE.cond_step (c := .tmp 10) (by kernel_rfl)
theorem n67_8s : codeB Try.prog E cx n67_8 st = thenS (codeB Try.prog E cx n67_9 st) (codeB Try.prog E cx n67_10) := GE.seq_step (by kernel_rfl)
theorem n67_14s : codeB Try.prog E ⟨f, 22, b, ro⟩ n67_14 st = drawS [0, 0, 0, 6, 3, 31] (runOpsF Try.prog E b q67_14 (ops [true, true, false, false, false, true, false] Try.f67) st) := GE.draw_step (id := 3) (GE.reg_of (by kernel_rfl)) (by kernel_rfl) (by kernel_rfl) (by kernel_rfl)
theorem n67_13s : codeB Try.prog E cx n67_13 st = blockS 1 (codeB Try.prog E cx n67_14 st) st := GE.block_step (by kernel_rfl)
theorem n67_7s : codeB Try.prog E cx n67_7 st = thenS (codeB Try.prog E cx n67_8 st) (codeB Try.prog E cx n67_13) := GE.seq_step (by kernel_rfl)
theorem n67_6k : LL.kp (⟨67, 22, b, ro⟩ : Cx).fn (4 * rid n67_7 + 3) = some ⟨[0, 1, 4, 5, 6], []⟩ := by kernel_rfl
theorem n67_6s : codeB Try.prog LL ⟨67, 22, b, ro⟩ n67_6 st = headS b ⟨[0, 1, 4, 5, 6], []⟩ st (lpB Try.prog LL ⟨67, 22, b, ro⟩ n67_6 n67_7) := GE.lpB_step (by kernel_rfl) (n67_6k b ro)
theorem n67_6g : LL.code ⟨67, 22, b, ro⟩ n67_6 st = headS b ⟨[0, 1, 4, 5, 6], []⟩ st (lpB Try.prog LL ⟨67, 22, b, ro⟩ n67_6 n67_7) := GE.lpB_again (by kernel_rfl) (n67_6k b ro)
theorem n67_5s : codeB Try.prog E cx n67_5 st = blockS 0 (codeB Try.prog E cx n67_6 st) st := GE.block_step (by kernel_rfl)
theorem n67_16s : codeB Try.prog E ⟨f, 22, b, ro⟩ n67_16 st = drawS [0, 0, 3, 0, 0, 24, 63, 127] (runOpsF Try.prog E b q67_16 (ops [true, true, true, false] Try.f67) st) := GE.draw_step (id := 4) (GE.reg_of (by kernel_rfl)) (by kernel_rfl) (by kernel_rfl) (by kernel_rfl)
theorem n67_17s : codeB Try.prog LL ⟨67, 22, b, ro⟩ n67_17 st = normS b ⟨[4], []⟩ .ret st := GE.ret_step (by kernel_rfl) (by kernel_rfl)
theorem n67_15s : codeB Try.prog E cx n67_15 st = thenS (codeB Try.prog E cx n67_16 st) (codeB Try.prog E cx n67_17) := GE.seq_step (by kernel_rfl)
theorem n67_4s : codeB Try.prog E cx n67_4 st = thenS (codeB Try.prog E cx n67_5 st) (codeB Try.prog E cx n67_15) := GE.seq_step (by kernel_rfl)
theorem n67_2s : codeB Try.prog E cx n67_2 st = thenS (codeB Try.prog E cx n67_3 st) (codeB Try.prog E cx n67_4) := GE.seq_step (by kernel_rfl)
theorem n67_0s : codeB Try.prog E cx n67_0 st = thenS (codeB Try.prog E cx n67_1 st) (codeB Try.prog E cx n67_2) := GE.seq_step (by kernel_rfl)
noncomputable def n69_0 : Code := bodyOf Try.f69
noncomputable def n69_1 : Code := cl n69_0
noncomputable def q69_1 : List Oper := opsOf n69_1
noncomputable def n69_2 : Code := cr n69_0
noncomputable def n69_3 : Code := cl n69_2
noncomputable def q69_3 : List Oper := opsOf n69_3
noncomputable def n69_4 : Code := cr n69_2
noncomputable def n69_5 : Code := cl n69_4
noncomputable def q69_5 : List Oper := opsOf n69_5
noncomputable def n69_6 : Code := cr n69_4
noncomputable def n69_7 : Code := cl n69_6
noncomputable def q69_7 : List Oper := opsOf n69_7
noncomputable def n69_8 : Code := cr n69_6
noncomputable def n69_9 : Code := cl n69_8
noncomputable def q69_9 : List Oper := opsOf n69_9
noncomputable def n69_10 : Code := cr n69_8
noncomputable def n69_11 : Code := cl n69_10
noncomputable def q69_11 : List Oper := opsOf n69_11
noncomputable def n69_12 : Code := cr n69_10
theorem body69 : Try.f69.body = some n69_0 := by kernel_rfl
theorem run69 (E : Ev) (args : List Value) (h : List Blk) (hl : args.length ≤ 32) : runB Try.prog E 69 args h = endS Try.prog [.tmp 4] h.length (codeB Try.prog E ⟨69, 32, h.length, none⟩ n69_0 ⟨enumT 0 args, h, []⟩) := GE.run_step Try.func69 body69 (by kernel_rfl) (by decide) (by kernel_rfl) hl
theorem n69_1s : codeB Try.prog E ⟨f, 32, b, ro⟩ n69_1 st = plainS (runOps Try.prog E b q69_1 (ops [false] Try.f69) st) := GE.region_step (id := 0) (GE.reg_of (by kernel_rfl)) (by kernel_rfl)
theorem n69_3s : codeB Try.prog E ⟨f, 32, b, ro⟩ n69_3 st = plainS (runOps Try.prog E b q69_3 (ops [true, false] Try.f69) st) := GE.region_step (id := 1) (GE.reg_of (by kernel_rfl)) (by kernel_rfl)
theorem n69_5s : codeB Try.prog E ⟨f, 32, b, ro⟩ n69_5 st = plainS (runOps Try.prog E b q69_5 (ops [true, true, false] Try.f69) st) := GE.region_step (id := 2) (GE.reg_of (by kernel_rfl)) (by kernel_rfl)
theorem n69_7s : codeB Try.prog E ⟨f, 32, b, ro⟩ n69_7 st = plainS (runOps Try.prog E b q69_7 (ops [true, true, true, false] Try.f69) st) := GE.region_step (id := 3) (GE.reg_of (by kernel_rfl)) (by kernel_rfl)
theorem n69_9s : codeB Try.prog E ⟨f, 32, b, ro⟩ n69_9 st = plainS (runOps Try.prog E b q69_9 (ops [true, true, true, true, false] Try.f69) st) := GE.region_step (id := 4) (GE.reg_of (by kernel_rfl)) (by kernel_rfl)
theorem n69_11s : codeB Try.prog E ⟨f, 32, b, ro⟩ n69_11 st = plainS (runOps Try.prog E b q69_11 (ops [true, true, true, true, true, false] Try.f69) st) := GE.region_step (id := 5) (GE.reg_of (by kernel_rfl)) (by kernel_rfl)
theorem n69_12s : codeB Try.prog LL ⟨69, 32, b, ro⟩ n69_12 st = normS b ⟨[4], []⟩ .ret st := GE.ret_step (by kernel_rfl) (by kernel_rfl)
theorem n69_10s : codeB Try.prog E cx n69_10 st = thenS (codeB Try.prog E cx n69_11 st) (codeB Try.prog E cx n69_12) := GE.seq_step (by kernel_rfl)
theorem n69_8s : codeB Try.prog E cx n69_8 st = thenS (codeB Try.prog E cx n69_9 st) (codeB Try.prog E cx n69_10) := GE.seq_step (by kernel_rfl)
theorem n69_6s : codeB Try.prog E cx n69_6 st = thenS (codeB Try.prog E cx n69_7 st) (codeB Try.prog E cx n69_8) := GE.seq_step (by kernel_rfl)
theorem n69_4s : codeB Try.prog E cx n69_4 st = thenS (codeB Try.prog E cx n69_5 st) (codeB Try.prog E cx n69_6) := GE.seq_step (by kernel_rfl)
theorem n69_2s : codeB Try.prog E cx n69_2 st = thenS (codeB Try.prog E cx n69_3 st) (codeB Try.prog E cx n69_4) := GE.seq_step (by kernel_rfl)
theorem n69_0s : codeB Try.prog E cx n69_0 st = thenS (codeB Try.prog E cx n69_1 st) (codeB Try.prog E cx n69_2) := GE.seq_step (by kernel_rfl)
noncomputable def n70_0 : Code := bodyOf Try.f70
noncomputable def n70_1 : Code := cl n70_0
noncomputable def q70_1 : List Oper := opsOf n70_1
noncomputable def n70_2 : Code := cr n70_0
noncomputable def n70_3 : Code := cl n70_2
noncomputable def q70_3 : List Oper := opsOf n70_3
noncomputable def n70_4 : Code := cr n70_2
theorem body70 : Try.f70.body = some n70_0 := by kernel_rfl
theorem run70 (E : Ev) (args : List Value) (h : List Blk) (hl : args.length ≤ 15) : runB Try.prog E 70 args h = endS Try.prog [.tmp 6] h.length (codeB Try.prog E ⟨70, 15, h.length, none⟩ n70_0 ⟨enumT 0 args, h, []⟩) := GE.run_step Try.func70 body70 (by kernel_rfl) (by decide) (by kernel_rfl) hl
theorem n70_1s : codeB Try.prog E ⟨f, 15, b, ro⟩ n70_1 st = plainS (runOps Try.prog E b q70_1 (ops [false] Try.f70) st) := GE.region_step (id := 0) (GE.reg_of (by kernel_rfl)) (by kernel_rfl)
theorem q70_3g3 : gd q70_3 3 = some 10 := by kernel_rfl
theorem n70_3s : codeB Try.prog E ⟨f, 15, b, ro⟩ n70_3 st = plainS (runOps Try.prog E b q70_3 (ops [true, false] Try.f70) st) := GE.region_step (id := 1) (GE.reg_of (by kernel_rfl)) (by kernel_rfl)
theorem n70_4s : codeB Try.prog LL ⟨70, 15, b, ro⟩ n70_4 st = normS b ⟨[6], []⟩ .ret st := GE.ret_step (by kernel_rfl) (by kernel_rfl)
theorem n70_2s : codeB Try.prog E cx n70_2 st = thenS (codeB Try.prog E cx n70_3 st) (codeB Try.prog E cx n70_4) := GE.seq_step (by kernel_rfl)
theorem n70_0s : codeB Try.prog E cx n70_0 st = thenS (codeB Try.prog E cx n70_1 st) (codeB Try.prog E cx n70_2) := GE.seq_step (by kernel_rfl)
noncomputable def n71_0 : Code := bodyOf Try.f71
noncomputable def n71_1 : Code := cl n71_0
noncomputable def q71_1 : List Oper := opsOf n71_1
noncomputable def n71_2 : Code := cr n71_0
noncomputable def n71_3 : Code := cl n71_2
noncomputable def q71_3 : List Oper := opsOf n71_3
noncomputable def n71_4 : Code := cr n71_2
theorem body71 : Try.f71.body = some n71_0 := by kernel_rfl
theorem run71 (E : Ev) (args : List Value) (h : List Blk) (hl : args.length ≤ 10) : runB Try.prog E 71 args h = endS Try.prog [.tmp 4] h.length (codeB Try.prog E ⟨71, 10, h.length, none⟩ n71_0 ⟨enumT 0 args, h, []⟩) := GE.run_step Try.func71 body71 (by kernel_rfl) (by decide) (by kernel_rfl) hl
theorem n71_1s : codeB Try.prog E ⟨f, 10, b, ro⟩ n71_1 st = plainS (runOps Try.prog E b q71_1 (ops [false] Try.f71) st) := GE.region_step (id := 0) (GE.reg_of (by kernel_rfl)) (by kernel_rfl)
theorem n71_3s : codeB Try.prog E ⟨f, 10, b, ro⟩ n71_3 st = plainS (runOps Try.prog E b q71_3 (ops [true, false] Try.f71) st) := GE.region_step (id := 1) (GE.reg_of (by kernel_rfl)) (by kernel_rfl)
theorem n71_4s : codeB Try.prog LL ⟨71, 10, b, ro⟩ n71_4 st = normS b ⟨[4], []⟩ .ret st := GE.ret_step (by kernel_rfl) (by kernel_rfl)
theorem n71_2s : codeB Try.prog E cx n71_2 st = thenS (codeB Try.prog E cx n71_3 st) (codeB Try.prog E cx n71_4) := GE.seq_step (by kernel_rfl)
theorem n71_0s : codeB Try.prog E cx n71_0 st = thenS (codeB Try.prog E cx n71_1 st) (codeB Try.prog E cx n71_2) := GE.seq_step (by kernel_rfl)
noncomputable def n74_0 : Code := bodyOf Try.f74
noncomputable def n74_1 : Code := cl n74_0
noncomputable def q74_1 : List Oper := opsOf n74_1
noncomputable def n74_2 : Code := cr n74_0
noncomputable def n74_3 : Code := cl n74_2
noncomputable def q74_3 : List Oper := opsOf n74_3
noncomputable def n74_4 : Code := cr n74_2
theorem body74 : Try.f74.body = some n74_0 := by kernel_rfl
theorem run74 (E : Ev) (args : List Value) (h : List Blk) (hl : args.length ≤ 9) : runB Try.prog E 74 args h = endS Try.prog [.tmp 4] h.length (codeB Try.prog E ⟨74, 9, h.length, none⟩ n74_0 ⟨enumT 0 args, h, []⟩) := GE.run_step Try.func74 body74 (by kernel_rfl) (by decide) (by kernel_rfl) hl
theorem n74_1s : codeB Try.prog E ⟨f, 9, b, ro⟩ n74_1 st = plainS (runOps Try.prog E b q74_1 (ops [false] Try.f74) st) := GE.region_step (id := 0) (GE.reg_of (by kernel_rfl)) (by kernel_rfl)
theorem n74_3s : codeB Try.prog E ⟨f, 9, b, ro⟩ n74_3 st = plainS (runOps Try.prog E b q74_3 (ops [true, false] Try.f74) st) := GE.region_step (id := 1) (GE.reg_of (by kernel_rfl)) (by kernel_rfl)
theorem n74_4s : codeB Try.prog LL ⟨74, 9, b, ro⟩ n74_4 st = normS b ⟨[4], []⟩ .ret st := GE.ret_step (by kernel_rfl) (by kernel_rfl)
theorem n74_2s : codeB Try.prog E cx n74_2 st = thenS (codeB Try.prog E cx n74_3 st) (codeB Try.prog E cx n74_4) := GE.seq_step (by kernel_rfl)
theorem n74_0s : codeB Try.prog E cx n74_0 st = thenS (codeB Try.prog E cx n74_1 st) (codeB Try.prog E cx n74_2) := GE.seq_step (by kernel_rfl)
noncomputable def n75_0 : Code := bodyOf Try.f75
noncomputable def n75_1 : Code := cl n75_0
noncomputable def q75_1 : List Oper := opsOf n75_1
noncomputable def n75_2 : Code := cr n75_0
noncomputable def n75_3 : Code := cl n75_2
noncomputable def q75_3 : List Oper := opsOf n75_3
noncomputable def n75_4 : Code := cr n75_2
theorem body75 : Try.f75.body = some n75_0 := by kernel_rfl
theorem run75 (E : Ev) (args : List Value) (h : List Blk) (hl : args.length ≤ 14) : runB Try.prog E 75 args h = endS Try.prog [.tmp 2] h.length (codeB Try.prog E ⟨75, 14, h.length, none⟩ n75_0 ⟨enumT 0 args, h, []⟩) := GE.run_step Try.func75 body75 (by kernel_rfl) (by decide) (by kernel_rfl) hl
theorem n75_1s : codeB Try.prog E ⟨f, 14, b, ro⟩ n75_1 st = plainS (runOps Try.prog E b q75_1 (ops [false] Try.f75) st) := GE.region_step (id := 0) (GE.reg_of (by kernel_rfl)) (by kernel_rfl)
theorem q75_3g6 : gd q75_3 6 = some 9 := by kernel_rfl
theorem n75_3s : codeB Try.prog E ⟨f, 14, b, ro⟩ n75_3 st = plainS (runOps Try.prog E b q75_3 (ops [true, false] Try.f75) st) := GE.region_step (id := 1) (GE.reg_of (by kernel_rfl)) (by kernel_rfl)
theorem n75_4s : codeB Try.prog LL ⟨75, 14, b, ro⟩ n75_4 st = normS b ⟨[2], []⟩ .ret st := GE.ret_step (by kernel_rfl) (by kernel_rfl)
theorem n75_2s : codeB Try.prog E cx n75_2 st = thenS (codeB Try.prog E cx n75_3 st) (codeB Try.prog E cx n75_4) := GE.seq_step (by kernel_rfl)
theorem n75_0s : codeB Try.prog E cx n75_0 st = thenS (codeB Try.prog E cx n75_1 st) (codeB Try.prog E cx n75_2) := GE.seq_step (by kernel_rfl)
noncomputable def n77_0 : Code := bodyOf Try.f77
noncomputable def n77_1 : Code := cl n77_0
noncomputable def q77_1 : List Oper := opsOf n77_1
noncomputable def n77_2 : Code := cr n77_0
noncomputable def n77_3 : Code := cl n77_2
noncomputable def q77_3 : List Oper := opsOf n77_3
noncomputable def n77_4 : Code := cr n77_2
theorem body77 : Try.f77.body = some n77_0 := by kernel_rfl
theorem run77 (E : Ev) (args : List Value) (h : List Blk) (hl : args.length ≤ 18) : runB Try.prog E 77 args h = endS Try.prog [.tmp 6] h.length (codeB Try.prog E ⟨77, 18, h.length, none⟩ n77_0 ⟨enumT 0 args, h, []⟩) := GE.run_step Try.func77 body77 (by kernel_rfl) (by decide) (by kernel_rfl) hl
theorem n77_1s : codeB Try.prog E ⟨f, 18, b, ro⟩ n77_1 st = plainS (runOps Try.prog E b q77_1 (ops [false] Try.f77) st) := GE.region_step (id := 0) (GE.reg_of (by kernel_rfl)) (by kernel_rfl)
theorem n77_3s : codeB Try.prog E ⟨f, 18, b, ro⟩ n77_3 st = drawS [0, 0, 3, 7, 15, 0, 0, 96, 224, 480, 1023, 2047] (runOpsF Try.prog E b q77_3 (ops [true, false] Try.f77) st) := GE.draw_step (id := 1) (GE.reg_of (by kernel_rfl)) (by kernel_rfl) (by kernel_rfl) (by kernel_rfl)
theorem n77_4s : codeB Try.prog LL ⟨77, 18, b, ro⟩ n77_4 st = normS b ⟨[6], []⟩ .ret st := GE.ret_step (by kernel_rfl) (by kernel_rfl)
theorem n77_2s : codeB Try.prog E cx n77_2 st = thenS (codeB Try.prog E cx n77_3 st) (codeB Try.prog E cx n77_4) := GE.seq_step (by kernel_rfl)
theorem n77_0s : codeB Try.prog E cx n77_0 st = thenS (codeB Try.prog E cx n77_1 st) (codeB Try.prog E cx n77_2) := GE.seq_step (by kernel_rfl)
noncomputable def n78_0 : Code := bodyOf Try.f78
noncomputable def n78_1 : Code := cl n78_0
noncomputable def q78_1 : List Oper := opsOf n78_1
noncomputable def n78_2 : Code := cr n78_0
noncomputable def n78_3 : Code := cl n78_2
noncomputable def q78_3 : List Oper := opsOf n78_3
noncomputable def n78_4 : Code := cr n78_2
theorem body78 : Try.f78.body = some n78_0 := by kernel_rfl
theorem run78 (E : Ev) (args : List Value) (h : List Blk) (hl : args.length ≤ 5) : runB Try.prog E 78 args h = endS Try.prog [.tmp 4] h.length (codeB Try.prog E ⟨78, 5, h.length, none⟩ n78_0 ⟨enumT 0 args, h, []⟩) := GE.run_step Try.func78 body78 (by kernel_rfl) (by decide) (by kernel_rfl) hl
theorem n78_1s : codeB Try.prog E ⟨f, 5, b, ro⟩ n78_1 st = plainS (runOps Try.prog E b q78_1 (ops [false] Try.f78) st) := GE.region_step (id := 0) (GE.reg_of (by kernel_rfl)) (by kernel_rfl)
theorem n78_3s : codeB Try.prog E ⟨f, 5, b, ro⟩ n78_3 st = plainS (runOps Try.prog E b q78_3 (ops [true, false] Try.f78) st) := GE.region_step (id := 1) (GE.reg_of (by kernel_rfl)) (by kernel_rfl)
theorem n78_4s : codeB Try.prog LL ⟨78, 5, b, ro⟩ n78_4 st = normS b ⟨[4], []⟩ .ret st := GE.ret_step (by kernel_rfl) (by kernel_rfl)
theorem n78_2s : codeB Try.prog E cx n78_2 st = thenS (codeB Try.prog E cx n78_3 st) (codeB Try.prog E cx n78_4) := GE.seq_step (by kernel_rfl)
theorem n78_0s : codeB Try.prog E cx n78_0 st = thenS (codeB Try.prog E cx n78_1 st) (codeB Try.prog E cx n78_2) := GE.seq_step (by kernel_rfl)
noncomputable def n80_0 : Code := bodyOf Try.f80
noncomputable def n80_1 : Code := cl n80_0
noncomputable def q80_1 : List Oper := opsOf n80_1
noncomputable def n80_2 : Code := cr n80_0
noncomputable def n80_3 : Code := cl n80_2
noncomputable def q80_3 : List Oper := opsOf n80_3
noncomputable def n80_4 : Code := cr n80_2
noncomputable def n80_5 : Code := cl n80_4
noncomputable def n80_6 : Code := cl n80_5
noncomputable def q80_6 : List Oper := opsOf n80_6
noncomputable def n80_7 : Code := cr n80_5
noncomputable def n80_8 : Code := cl n80_7
noncomputable def n80_9 : Code := cl n80_8
noncomputable def n80_10 : Code := cl n80_9
noncomputable def q80_10 : List Oper := opsOf n80_10
noncomputable def n80_11 : Code := cr n80_9
noncomputable def n80_12 : Code := cl n80_11
noncomputable def n80_13 : Code := cl n80_12
noncomputable def n80_14 : Code := cr n80_12
noncomputable def n80_15 : Code := cr n80_11
noncomputable def n80_16 : Code := cl n80_15
noncomputable def n80_17 : Code := cl n80_16
noncomputable def n80_18 : Code := cl n80_17
noncomputable def q80_18 : List Oper := opsOf n80_18
noncomputable def n80_19 : Code := cr n80_17
noncomputable def n80_20 : Code := cl n80_19
noncomputable def q80_20 : List Oper := opsOf n80_20
noncomputable def n80_21 : Code := cr n80_19
noncomputable def n80_22 : Code := cl n80_21
noncomputable def q80_22 : List Oper := opsOf n80_22
noncomputable def n80_23 : Code := cr n80_21
noncomputable def n80_24 : Code := cr n80_15
noncomputable def q80_24 : List Oper := opsOf n80_24
noncomputable def n80_25 : Code := cr n80_4
noncomputable def n80_26 : Code := cl n80_25
noncomputable def q80_26 : List Oper := opsOf n80_26
noncomputable def n80_27 : Code := cr n80_25
theorem body80 : Try.f80.body = some n80_0 := by kernel_rfl
theorem run80 (E : Ev) (args : List Value) (h : List Blk) (hl : args.length ≤ 35) : runB Try.prog E 80 args h = endS Try.prog [.tmp 5] h.length (codeB Try.prog E ⟨80, 35, h.length, none⟩ n80_0 ⟨enumT 0 args, h, []⟩) := GE.run_step Try.func80 body80 (by kernel_rfl) (by decide) (by kernel_rfl) hl
theorem n80_1s : codeB Try.prog E ⟨f, 35, b, ro⟩ n80_1 st = plainS (runOps Try.prog E b q80_1 (ops [false] Try.f80) st) := GE.region_step (id := 0) (GE.reg_of (by kernel_rfl)) (by kernel_rfl)
theorem n80_3s : codeB Try.prog E ⟨f, 35, b, ro⟩ n80_3 st = plainS (runOps Try.prog E b q80_3 (ops [true, false] Try.f80) st) := GE.region_step (id := 1) (GE.reg_of (by kernel_rfl)) (by kernel_rfl)
theorem n80_6s : codeB Try.prog E ⟨f, 35, b, ro⟩ n80_6 st = plainS (runOps Try.prog E b q80_6 (ops [true, true, false, false] Try.f80) st) := GE.region_step (id := 2) (GE.reg_of (by kernel_rfl)) (by kernel_rfl)
theorem n80_10s : codeB Try.prog E ⟨f, 35, b, ro⟩ n80_10 st = plainS (runOps Try.prog E b q80_10 (ops [true, true, false, true, false, false, false] Try.f80) st) := GE.region_step (id := 3) (GE.reg_of (by kernel_rfl)) (by kernel_rfl)
theorem n80_13s : codeB Try.prog E cx n80_13 st = some (.normal, st) := GE.skip_step (by kernel_rfl)
theorem n80_14s : codeB Try.prog LL ⟨80, 35, b, ro⟩ n80_14 st = normS b ⟨[6], []⟩ (.exit 0) st := GE.exit_step (by kernel_rfl) (by kernel_rfl)
theorem n80_12s : codeB Try.prog E cx n80_12 st = condS (codeB Try.prog E cx n80_13) (codeB Try.prog E cx n80_14) (lk st.σ 11) st := GE.cond_step (c := .tmp 11) (by kernel_rfl)
theorem n80_18s : codeB Try.prog E ⟨f, 35, b, ro⟩ n80_18 st = plainS (runOps Try.prog E b q80_18 (ops [true, true, false, true, false, false, true, true, false, false, false] Try.f80) st) := GE.region_step (id := 4) (GE.reg_of (by kernel_rfl)) (by kernel_rfl)
theorem q80_20g4 : gd q80_20 4 = some 17 := by kernel_rfl
theorem n80_20s : codeB Try.prog E ⟨f, 35, b, ro⟩ n80_20 st = plainS (runOps Try.prog E b q80_20 (ops [true, true, false, true, false, false, true, true, false, false, true, false] Try.f80) st) := GE.region_step (id := 5) (GE.reg_of (by kernel_rfl)) (by kernel_rfl)
theorem n80_22s : codeB Try.prog E ⟨f, 35, b, ro⟩ n80_22 st = drawS [0, 0, 2, 6, 14, 0, 0, 96, 254, 511, 1023] (runOpsF Try.prog E b q80_22 (ops [true, true, false, true, false, false, true, true, false, false, true, true, false] Try.f80) st) := GE.draw_step (id := 6) (GE.reg_of (by kernel_rfl)) (by kernel_rfl) (by kernel_rfl) (by kernel_rfl)
theorem n80_23s : codeB Try.prog E cx n80_23 st = some (.normal, st) := GE.skip_step (by kernel_rfl)
theorem n80_21s : codeB Try.prog E cx n80_21 st = condS (codeB Try.prog E cx n80_22) (codeB Try.prog E cx n80_23) (lk st.σ 22) st := GE.cond_step (c := .tmp 22) (by kernel_rfl)
theorem n80_19s : codeB Try.prog E cx n80_19 st = thenS (codeB Try.prog E cx n80_20 st) (codeB Try.prog E cx n80_21) := GE.seq_step (by kernel_rfl)
theorem n80_17s : codeB Try.prog E cx n80_17 st = thenS (codeB Try.prog E cx n80_18 st) (codeB Try.prog E cx n80_19) := GE.seq_step (by kernel_rfl)
theorem n80_16s : codeB Try.prog E cx n80_16 st = blockS 1 (codeB Try.prog E cx n80_17 st) st := GE.block_step (by kernel_rfl)
theorem n80_24s : codeB Try.prog E ⟨f, 35, b, ro⟩ n80_24 st = plainS (runOps Try.prog E b q80_24 (ops [true, true, false, true, false, false, true, true, true] Try.f80) st) := GE.region_step (id := 7) (GE.reg_of (by kernel_rfl)) (by kernel_rfl)
theorem n80_15s : codeB Try.prog E cx n80_15 st = thenS (codeB Try.prog E cx n80_16 st) (codeB Try.prog E cx n80_24) := GE.seq_step (by kernel_rfl)
theorem n80_11s : codeB Try.prog E cx n80_11 st = thenS (codeB Try.prog E cx n80_12 st) (codeB Try.prog E cx n80_15) := GE.seq_step (by kernel_rfl)
theorem n80_9s : codeB Try.prog E cx n80_9 st = thenS (codeB Try.prog E cx n80_10 st) (codeB Try.prog E cx n80_11) := GE.seq_step (by kernel_rfl)
theorem n80_8k : LL.kp (⟨80, 35, b, ro⟩ : Cx).fn (4 * rid n80_9 + 3) = some ⟨[0, 1, 2, 3, 6, 9, 10], []⟩ := by kernel_rfl
theorem n80_8s : codeB Try.prog LL ⟨80, 35, b, ro⟩ n80_8 st = headS b ⟨[0, 1, 2, 3, 6, 9, 10], []⟩ st (lpB Try.prog LL ⟨80, 35, b, ro⟩ n80_8 n80_9) := GE.lpB_step (by kernel_rfl) (n80_8k b ro)
theorem n80_8g : LL.code ⟨80, 35, b, ro⟩ n80_8 st = headS b ⟨[0, 1, 2, 3, 6, 9, 10], []⟩ st (lpB Try.prog LL ⟨80, 35, b, ro⟩ n80_8 n80_9) := GE.lpB_again (by kernel_rfl) (n80_8k b ro)
theorem n80_7s : codeB Try.prog E cx n80_7 st = blockS 0 (codeB Try.prog E cx n80_8 st) st := GE.block_step (by kernel_rfl)
theorem n80_5s : codeB Try.prog E cx n80_5 st = thenS (codeB Try.prog E cx n80_6 st) (codeB Try.prog E cx n80_7) := GE.seq_step (by kernel_rfl)
theorem n80_26s : codeB Try.prog E ⟨f, 35, b, ro⟩ n80_26 st = plainS (runOps Try.prog E b q80_26 (ops [true, true, true, false] Try.f80) st) := GE.region_step (id := 8) (GE.reg_of (by kernel_rfl)) (by kernel_rfl)
theorem n80_27s : codeB Try.prog LL ⟨80, 35, b, ro⟩ n80_27 st = normS b ⟨[5], []⟩ .ret st := GE.ret_step (by kernel_rfl) (by kernel_rfl)
theorem n80_25s : codeB Try.prog E cx n80_25 st = thenS (codeB Try.prog E cx n80_26 st) (codeB Try.prog E cx n80_27) := GE.seq_step (by kernel_rfl)
theorem n80_4s : codeB Try.prog E cx n80_4 st = thenS (codeB Try.prog E cx n80_5 st) (codeB Try.prog E cx n80_25) := GE.seq_step (by kernel_rfl)
theorem n80_2s : codeB Try.prog E cx n80_2 st = thenS (codeB Try.prog E cx n80_3 st) (codeB Try.prog E cx n80_4) := GE.seq_step (by kernel_rfl)
theorem n80_0s : codeB Try.prog E cx n80_0 st = thenS (codeB Try.prog E cx n80_1 st) (codeB Try.prog E cx n80_2) := GE.seq_step (by kernel_rfl)
noncomputable def n81_0 : Code := bodyOf Try.f81
noncomputable def n81_1 : Code := cl n81_0
noncomputable def q81_1 : List Oper := opsOf n81_1
noncomputable def n81_2 : Code := cr n81_0
noncomputable def n81_3 : Code := cl n81_2
noncomputable def q81_3 : List Oper := opsOf n81_3
noncomputable def n81_4 : Code := cr n81_2
noncomputable def n81_5 : Code := cl n81_4
noncomputable def n81_6 : Code := cl n81_5
noncomputable def q81_6 : List Oper := opsOf n81_6
noncomputable def n81_7 : Code := cr n81_5
noncomputable def n81_8 : Code := cl n81_7
noncomputable def n81_9 : Code := cl n81_8
noncomputable def n81_10 : Code := cl n81_9
noncomputable def q81_10 : List Oper := opsOf n81_10
noncomputable def n81_11 : Code := cr n81_9
noncomputable def n81_12 : Code := cl n81_11
noncomputable def n81_13 : Code := cl n81_12
noncomputable def n81_14 : Code := cr n81_12
noncomputable def n81_15 : Code := cr n81_11
noncomputable def n81_16 : Code := cl n81_15
noncomputable def n81_17 : Code := cl n81_16
noncomputable def n81_18 : Code := cl n81_17
noncomputable def q81_18 : List Oper := opsOf n81_18
noncomputable def n81_19 : Code := cr n81_17
noncomputable def n81_20 : Code := cl n81_19
noncomputable def q81_20 : List Oper := opsOf n81_20
noncomputable def n81_21 : Code := cr n81_19
noncomputable def n81_22 : Code := cl n81_21
noncomputable def q81_22 : List Oper := opsOf n81_22
noncomputable def n81_23 : Code := cr n81_21
noncomputable def n81_24 : Code := cl n81_23
noncomputable def q81_24 : List Oper := opsOf n81_24
noncomputable def n81_25 : Code := cr n81_23
noncomputable def n81_26 : Code := cr n81_15
noncomputable def q81_26 : List Oper := opsOf n81_26
noncomputable def n81_27 : Code := cr n81_4
noncomputable def n81_28 : Code := cl n81_27
noncomputable def q81_28 : List Oper := opsOf n81_28
noncomputable def n81_29 : Code := cr n81_27
theorem body81 : Try.f81.body = some n81_0 := by kernel_rfl
theorem run81 (E : Ev) (args : List Value) (h : List Blk) (hl : args.length ≤ 36) : runB Try.prog E 81 args h = endS Try.prog [.tmp 4] h.length (codeB Try.prog E ⟨81, 36, h.length, none⟩ n81_0 ⟨enumT 0 args, h, []⟩) := GE.run_step Try.func81 body81 (by kernel_rfl) (by decide) (by kernel_rfl) hl
theorem n81_1s : codeB Try.prog E ⟨f, 36, b, ro⟩ n81_1 st = plainS (runOps Try.prog E b q81_1 (ops [false] Try.f81) st) := GE.region_step (id := 0) (GE.reg_of (by kernel_rfl)) (by kernel_rfl)
theorem n81_3s : codeB Try.prog E ⟨f, 36, b, ro⟩ n81_3 st = plainS (runOps Try.prog E b q81_3 (ops [true, false] Try.f81) st) := GE.region_step (id := 1) (GE.reg_of (by kernel_rfl)) (by kernel_rfl)
theorem n81_6s : codeB Try.prog E ⟨f, 36, b, ro⟩ n81_6 st = plainS (runOps Try.prog E b q81_6 (ops [true, true, false, false] Try.f81) st) := GE.region_step (id := 2) (GE.reg_of (by kernel_rfl)) (by kernel_rfl)
theorem n81_10s : codeB Try.prog E ⟨f, 36, b, ro⟩ n81_10 st = plainS (runOps Try.prog E b q81_10 (ops [true, true, false, true, false, false, false] Try.f81) st) := GE.region_step (id := 3) (GE.reg_of (by kernel_rfl)) (by kernel_rfl)
theorem n81_13s : codeB Try.prog E cx n81_13 st = some (.normal, st) := GE.skip_step (by kernel_rfl)
theorem n81_14s : codeB Try.prog LL ⟨81, 36, b, ro⟩ n81_14 st = normS b ⟨[5], []⟩ (.exit 0) st := GE.exit_step (by kernel_rfl) (by kernel_rfl)
theorem n81_12s : codeB Try.prog E cx n81_12 st = condS (codeB Try.prog E cx n81_13) (codeB Try.prog E cx n81_14) (lk st.σ 11) st := GE.cond_step (c := .tmp 11) (by kernel_rfl)
theorem n81_18s : codeB Try.prog E ⟨f, 36, b, ro⟩ n81_18 st = plainS (runOps Try.prog E b q81_18 (ops [true, true, false, true, false, false, true, true, false, false, false] Try.f81) st) := GE.region_step (id := 4) (GE.reg_of (by kernel_rfl)) (by kernel_rfl)
theorem n81_20s : codeB Try.prog E ⟨f, 36, b, ro⟩ n81_20 st = plainS (runOps Try.prog E b q81_20 (ops [true, true, false, true, false, false, true, true, false, false, true, false] Try.f81) st) := GE.region_step (id := 5) (GE.reg_of (by kernel_rfl)) (by kernel_rfl)
theorem q81_22g3 : gd q81_22 3 = some 20 := by kernel_rfl
theorem n81_22s : codeB Try.prog E ⟨f, 36, b, ro⟩ n81_22 st = plainS (runOps Try.prog E b q81_22 (ops [true, true, false, true, false, false, true, true, false, false, true, true, false] Try.f81) st) := GE.region_step (id := 6) (GE.reg_of (by kernel_rfl)) (by kernel_rfl)
theorem n81_24s : codeB Try.prog E ⟨f, 36, b, ro⟩ n81_24 st = plainS (runOps Try.prog E b q81_24 (ops [true, true, false, true, false, false, true, true, false, false, true, true, true, false] Try.f81) st) := GE.region_step (id := 7) (GE.reg_of (by kernel_rfl)) (by kernel_rfl)
theorem n81_25s : codeB Try.prog E cx n81_25 st = some (.normal, st) := GE.skip_step (by kernel_rfl)
theorem n81_23s : codeB Try.prog E cx n81_23 st = condS (codeB Try.prog E cx n81_24) (codeB Try.prog E cx n81_25) (lk st.σ 25) st := GE.cond_step (c := .tmp 25) (by kernel_rfl)
theorem n81_21s : codeB Try.prog E cx n81_21 st = thenS (codeB Try.prog E cx n81_22 st) (codeB Try.prog E cx n81_23) := GE.seq_step (by kernel_rfl)
theorem n81_19s : codeB Try.prog E cx n81_19 st = thenS (codeB Try.prog E cx n81_20 st) (codeB Try.prog E cx n81_21) := GE.seq_step (by kernel_rfl)
theorem n81_17s : codeB Try.prog E cx n81_17 st = thenS (codeB Try.prog E cx n81_18 st) (codeB Try.prog E cx n81_19) := GE.seq_step (by kernel_rfl)
theorem n81_16s : codeB Try.prog E cx n81_16 st = blockS 1 (codeB Try.prog E cx n81_17 st) st := GE.block_step (by kernel_rfl)
theorem n81_26s : codeB Try.prog E ⟨f, 36, b, ro⟩ n81_26 st = plainS (runOps Try.prog E b q81_26 (ops [true, true, false, true, false, false, true, true, true] Try.f81) st) := GE.region_step (id := 8) (GE.reg_of (by kernel_rfl)) (by kernel_rfl)
theorem n81_15s : codeB Try.prog E cx n81_15 st = thenS (codeB Try.prog E cx n81_16 st) (codeB Try.prog E cx n81_26) := GE.seq_step (by kernel_rfl)
theorem n81_11s : codeB Try.prog E cx n81_11 st = thenS (codeB Try.prog E cx n81_12 st) (codeB Try.prog E cx n81_15) := GE.seq_step (by kernel_rfl)
theorem n81_9s : codeB Try.prog E cx n81_9 st = thenS (codeB Try.prog E cx n81_10 st) (codeB Try.prog E cx n81_11) := GE.seq_step (by kernel_rfl)
theorem n81_8k : LL.kp (⟨81, 36, b, ro⟩ : Cx).fn (4 * rid n81_9 + 3) = some ⟨[0, 1, 2, 5, 9, 10], []⟩ := by kernel_rfl
theorem n81_8s : codeB Try.prog LL ⟨81, 36, b, ro⟩ n81_8 st = headS b ⟨[0, 1, 2, 5, 9, 10], []⟩ st (lpB Try.prog LL ⟨81, 36, b, ro⟩ n81_8 n81_9) := GE.lpB_step (by kernel_rfl) (n81_8k b ro)
theorem n81_8g : LL.code ⟨81, 36, b, ro⟩ n81_8 st = headS b ⟨[0, 1, 2, 5, 9, 10], []⟩ st (lpB Try.prog LL ⟨81, 36, b, ro⟩ n81_8 n81_9) := GE.lpB_again (by kernel_rfl) (n81_8k b ro)
theorem n81_7s : codeB Try.prog E cx n81_7 st = blockS 0 (codeB Try.prog E cx n81_8 st) st := GE.block_step (by kernel_rfl)
theorem n81_5s : codeB Try.prog E cx n81_5 st = thenS (codeB Try.prog E cx n81_6 st) (codeB Try.prog E cx n81_7) := GE.seq_step (by kernel_rfl)
theorem n81_28s : codeB Try.prog E ⟨f, 36, b, ro⟩ n81_28 st = plainS (runOps Try.prog E b q81_28 (ops [true, true, true, false] Try.f81) st) := GE.region_step (id := 9) (GE.reg_of (by kernel_rfl)) (by kernel_rfl)
theorem n81_29s : codeB Try.prog LL ⟨81, 36, b, ro⟩ n81_29 st = normS b ⟨[4], []⟩ .ret st := GE.ret_step (by kernel_rfl) (by kernel_rfl)
theorem n81_27s : codeB Try.prog E cx n81_27 st = thenS (codeB Try.prog E cx n81_28 st) (codeB Try.prog E cx n81_29) := GE.seq_step (by kernel_rfl)
theorem n81_4s : codeB Try.prog E cx n81_4 st = thenS (codeB Try.prog E cx n81_5 st) (codeB Try.prog E cx n81_27) := GE.seq_step (by kernel_rfl)
theorem n81_2s : codeB Try.prog E cx n81_2 st = thenS (codeB Try.prog E cx n81_3 st) (codeB Try.prog E cx n81_4) := GE.seq_step (by kernel_rfl)
theorem n81_0s : codeB Try.prog E cx n81_0 st = thenS (codeB Try.prog E cx n81_1 st) (codeB Try.prog E cx n81_2) := GE.seq_step (by kernel_rfl)
noncomputable def n82_0 : Code := bodyOf Try.f82
noncomputable def n82_1 : Code := cl n82_0
noncomputable def q82_1 : List Oper := opsOf n82_1
noncomputable def n82_2 : Code := cr n82_0
noncomputable def n82_3 : Code := cl n82_2
noncomputable def n82_4 : Code := cl n82_3
noncomputable def q82_4 : List Oper := opsOf n82_4
noncomputable def n82_5 : Code := cr n82_3
noncomputable def n82_6 : Code := cl n82_5
noncomputable def n82_7 : Code := cl n82_6
noncomputable def n82_8 : Code := cl n82_7
noncomputable def q82_8 : List Oper := opsOf n82_8
noncomputable def n82_9 : Code := cr n82_7
noncomputable def n82_10 : Code := cl n82_9
noncomputable def n82_11 : Code := cl n82_10
noncomputable def n82_12 : Code := cr n82_10
noncomputable def n82_13 : Code := cr n82_9
noncomputable def n82_14 : Code := cl n82_13
noncomputable def n82_15 : Code := cl n82_14
noncomputable def n82_16 : Code := cl n82_15
noncomputable def q82_16 : List Oper := opsOf n82_16
noncomputable def n82_17 : Code := cr n82_15
noncomputable def n82_18 : Code := cl n82_17
noncomputable def q82_18 : List Oper := opsOf n82_18
noncomputable def n82_19 : Code := cr n82_17
noncomputable def n82_20 : Code := cl n82_19
noncomputable def n82_21 : Code := cl n82_20
noncomputable def q82_21 : List Oper := opsOf n82_21
noncomputable def n82_22 : Code := cr n82_20
noncomputable def n82_23 : Code := cr n82_19
noncomputable def n82_24 : Code := cr n82_13
noncomputable def q82_24 : List Oper := opsOf n82_24
noncomputable def n82_25 : Code := cr n82_2
noncomputable def n82_26 : Code := cl n82_25
noncomputable def q82_26 : List Oper := opsOf n82_26
noncomputable def n82_27 : Code := cr n82_25
theorem body82 : Try.f82.body = some n82_0 := by kernel_rfl
theorem run82 (E : Ev) (args : List Value) (h : List Blk) (hl : args.length ≤ 19) : runB Try.prog E 82 args h = endS Try.prog [.tmp 4] h.length (codeB Try.prog E ⟨82, 19, h.length, none⟩ n82_0 ⟨enumT 0 args, h, []⟩) := GE.run_step Try.func82 body82 (by kernel_rfl) (by decide) (by kernel_rfl) hl
theorem n82_1s : codeB Try.prog E ⟨f, 19, b, ro⟩ n82_1 st = plainS (runOps Try.prog E b q82_1 (ops [false] Try.f82) st) := GE.region_step (id := 0) (GE.reg_of (by kernel_rfl)) (by kernel_rfl)
theorem n82_4s : codeB Try.prog E ⟨f, 19, b, ro⟩ n82_4 st = plainS (runOps Try.prog E b q82_4 (ops [true, false, false] Try.f82) st) := GE.region_step (id := 1) (GE.reg_of (by kernel_rfl)) (by kernel_rfl)
theorem n82_8s : codeB Try.prog E ⟨f, 19, b, ro⟩ n82_8 st = plainS (runOps Try.prog E b q82_8 (ops [true, false, true, false, false, false] Try.f82) st) := GE.region_step (id := 2) (GE.reg_of (by kernel_rfl)) (by kernel_rfl)
theorem n82_11s : codeB Try.prog E cx n82_11 st = some (.normal, st) := GE.skip_step (by kernel_rfl)
theorem n82_12s : codeB Try.prog LL ⟨82, 19, b, ro⟩ n82_12 st = normS b ⟨[], []⟩ (.exit 0) st := GE.exit_step (by kernel_rfl) (by kernel_rfl)
theorem n82_10s : codeB Try.prog E cx n82_10 st = condS (codeB Try.prog E cx n82_11) (codeB Try.prog E cx n82_12) (lk st.σ 9) st := GE.cond_step (c := .tmp 9) (by kernel_rfl)
theorem n82_16s : codeB Try.prog E ⟨f, 19, b, ro⟩ n82_16 st = plainS (runOps Try.prog E b q82_16 (ops [true, false, true, false, false, true, true, false, false, false] Try.f82) st) := GE.region_step (id := 3) (GE.reg_of (by kernel_rfl)) (by kernel_rfl)
theorem n82_18s : codeB Try.prog E ⟨f, 19, b, ro⟩ n82_18 st = plainS (runOps Try.prog E b q82_18 (ops [true, false, true, false, false, true, true, false, false, true, false] Try.f82) st) := GE.region_step (id := 4) (GE.reg_of (by kernel_rfl)) (by kernel_rfl)
theorem n82_21s : codeB Try.prog E ⟨f, 19, b, ro⟩ n82_21 st = plainS (runOps Try.prog E b q82_21 (ops [true, false, true, false, false, true, true, false, false, true, true, false, false] Try.f82) st) := GE.region_step (id := 5) (GE.reg_of (by kernel_rfl)) (by kernel_rfl)
theorem n82_22s : codeB Try.prog LL ⟨82, 19, b, ro⟩ n82_22 st = normS b ⟨[4], []⟩ .ret st := GE.ret_step (by kernel_rfl) (by kernel_rfl)
theorem n82_20s : codeB Try.prog E cx n82_20 st = thenS (codeB Try.prog E cx n82_21 st) (codeB Try.prog E cx n82_22) := GE.seq_step (by kernel_rfl)
theorem n82_23s : codeB Try.prog E cx n82_23 st = some (.normal, st) := GE.skip_step (by kernel_rfl)
theorem n82_19s : codeB Try.prog E cx n82_19 st = condS (codeB Try.prog E cx n82_20) (codeB Try.prog E cx n82_23) (lk st.σ 16) st := GE.cond_step (c := .tmp 16) (by kernel_rfl)
theorem n82_17s : codeB Try.prog E cx n82_17 st = thenS (codeB Try.prog E cx n82_18 st) (codeB Try.prog E cx n82_19) := GE.seq_step (by kernel_rfl)
theorem n82_15s : codeB Try.prog E cx n82_15 st = thenS (codeB Try.prog E cx n82_16 st) (codeB Try.prog E cx n82_17) := GE.seq_step (by kernel_rfl)
theorem n82_14s : codeB Try.prog E cx n82_14 st = blockS 1 (codeB Try.prog E cx n82_15 st) st := GE.block_step (by kernel_rfl)
theorem n82_24s : codeB Try.prog E ⟨f, 19, b, ro⟩ n82_24 st = plainS (runOps Try.prog E b q82_24 (ops [true, false, true, false, false, true, true, true] Try.f82) st) := GE.region_step (id := 6) (GE.reg_of (by kernel_rfl)) (by kernel_rfl)
theorem n82_13s : codeB Try.prog E cx n82_13 st = thenS (codeB Try.prog E cx n82_14 st) (codeB Try.prog E cx n82_24) := GE.seq_step (by kernel_rfl)
theorem n82_9s : codeB Try.prog E cx n82_9 st = thenS (codeB Try.prog E cx n82_10 st) (codeB Try.prog E cx n82_13) := GE.seq_step (by kernel_rfl)
theorem n82_7s : codeB Try.prog E cx n82_7 st = thenS (codeB Try.prog E cx n82_8 st) (codeB Try.prog E cx n82_9) := GE.seq_step (by kernel_rfl)
theorem n82_6k : LL.kp (⟨82, 19, b, ro⟩ : Cx).fn (4 * rid n82_7 + 3) = some ⟨[0, 1, 7, 8], [⟨0, 0, 2, true⟩]⟩ := by kernel_rfl
theorem n82_6s : codeB Try.prog LL ⟨82, 19, b, ro⟩ n82_6 st = headS b ⟨[0, 1, 7, 8], [⟨0, 0, 2, true⟩]⟩ st (lpB Try.prog LL ⟨82, 19, b, ro⟩ n82_6 n82_7) := GE.lpB_step (by kernel_rfl) (n82_6k b ro)
theorem n82_6g : LL.code ⟨82, 19, b, ro⟩ n82_6 st = headS b ⟨[0, 1, 7, 8], [⟨0, 0, 2, true⟩]⟩ st (lpB Try.prog LL ⟨82, 19, b, ro⟩ n82_6 n82_7) := GE.lpB_again (by kernel_rfl) (n82_6k b ro)
theorem n82_5s : codeB Try.prog E cx n82_5 st = blockS 0 (codeB Try.prog E cx n82_6 st) st := GE.block_step (by kernel_rfl)
theorem n82_3s : codeB Try.prog E cx n82_3 st = thenS (codeB Try.prog E cx n82_4 st) (codeB Try.prog E cx n82_5) := GE.seq_step (by kernel_rfl)
theorem n82_26s : codeB Try.prog E ⟨f, 19, b, ro⟩ n82_26 st = plainS (runOps Try.prog E b q82_26 (ops [true, true, false] Try.f82) st) := GE.region_step (id := 7) (GE.reg_of (by kernel_rfl)) (by kernel_rfl)
theorem n82_27s : codeB Try.prog LL ⟨82, 19, b, ro⟩ n82_27 st = normS b ⟨[4], []⟩ .ret st := GE.ret_step (by kernel_rfl) (by kernel_rfl)
theorem n82_25s : codeB Try.prog E cx n82_25 st = thenS (codeB Try.prog E cx n82_26 st) (codeB Try.prog E cx n82_27) := GE.seq_step (by kernel_rfl)
theorem n82_2s : codeB Try.prog E cx n82_2 st = thenS (codeB Try.prog E cx n82_3 st) (codeB Try.prog E cx n82_25) := GE.seq_step (by kernel_rfl)
theorem n82_0s : codeB Try.prog E cx n82_0 st = thenS (codeB Try.prog E cx n82_1 st) (codeB Try.prog E cx n82_2) := GE.seq_step (by kernel_rfl)
theorem lk_49 : lenK Try.prog 49 = some .sl := by kernel_rfl
theorem ea_60 : elemK Try.prog 60 = some (some 2, 1) := by kernel_rfl
theorem ia_5 : aggK Try.prog 5 = some (false, 1) := by kernel_rfl
theorem cv_5_3 : convK Try.prog 5 3 = some .i64 := by kernel_rfl
theorem lk_22 : lenK Try.prog 22 = some .sl := by kernel_rfl
theorem za_42 : zeroA Try.prog 42 = some (.agg #[(.int .i64 (0)), (.int .i64 (0))]) := by kernel_rfl
theorem sz_42 : aggSize Try.prog 42 = some 2 := by kernel_rfl
theorem es_49 : elemK Try.prog 49 = some (none, 1) := by kernel_rfl
theorem ia_24 : aggK Try.prog 24 = some (false, 1) := by kernel_rfl
theorem es_24 : elemK Try.prog 24 = some (none, 1) := by kernel_rfl
theorem ia_3 : aggK Try.prog 3 = some (false, 1) := by kernel_rfl
theorem fa_42_1 : fieldAt Try.prog 42 1 = some (1, 1) := by kernel_rfl
theorem fa_42_0 : fieldAt Try.prog 42 0 = some (0, 1) := by kernel_rfl
theorem ia_42 : aggK Try.prog 42 = some (true, 2) := by kernel_rfl
theorem lk_24 : lenK Try.prog 24 = some .sl := by kernel_rfl
theorem lk_94 : lenK Try.prog 94 = some .sl := by kernel_rfl
theorem pl_42 : plK Try.prog 42 = some [(0, 1), (1, 1)] := by kernel_rfl
theorem es_94 : elemK Try.prog 94 = some (none, 1) := by kernel_rfl
theorem ia_77 : aggK Try.prog 77 = some (false, 1) := by kernel_rfl
theorem fa_90_0 : fieldAt Try.prog 90 0 = some (0, 1) := by kernel_rfl
theorem ia_78 : aggK Try.prog 78 = some (false, 1) := by kernel_rfl
theorem fa_90_2 : fieldAt Try.prog 90 2 = some (2, 1) := by kernel_rfl
theorem ia_88 : aggK Try.prog 88 = some (false, 1) := by kernel_rfl
theorem fa_90_1 : fieldAt Try.prog 90 1 = some (1, 1) := by kernel_rfl
theorem lk_47 : lenK Try.prog 47 = some .sl := by kernel_rfl
theorem es_47 : elemK Try.prog 47 = some (none, 2) := by kernel_rfl
theorem za_55 : zeroA Try.prog 55 = some (.agg #[(.int .i64 (0)), (.int .i64 (0))]) := by kernel_rfl
theorem pl_55 : plK Try.prog 55 = some [(0, 1), (1, 1)] := by kernel_rfl
theorem es_22 : elemK Try.prog 22 = some (none, 2) := by kernel_rfl
theorem ze_22 : zeroE Try.prog 22 = some (.agg #[(.int .i64 (0)), (.int .i64 (0))]) := by kernel_rfl
theorem ba_22_1 : baseArr (Value.cells (.agg #[(.int .i64 (0)), (.int .i64 (0))])) (1 * 2) = #[(.int .i64 (0)), (.int .i64 (0))] := by kernel_rfl
theorem ap_22 : apK Try.prog 22 = some (2, 16) := by kernel_rfl
theorem ni_22 : notInt Try.prog 22 = true := by kernel_rfl
theorem ze_24 : zeroE Try.prog 24 = some (.int .i64 (0)) := by kernel_rfl
theorem ba_24_2 : baseArr (Value.cells (.int .i64 (0))) (2 * 1) = #[(.int .i64 (0)), (.int .i64 (0))] := by kernel_rfl
theorem ze_49 : zeroE Try.prog 49 = some (.slice none 0 0) := by kernel_rfl
theorem ba_49_1 : baseArr (Value.cells (.slice none 0 0)) (1 * 1) = #[(.slice none 0 0)] := by kernel_rfl
theorem ba_24_0 : baseArr (Value.cells (.int .i64 (0))) (0 * 1) = #[] := by kernel_rfl
theorem ap_24 : apK Try.prog 24 = some (1, 8) := by kernel_rfl
theorem ni_24 : notInt Try.prog 24 = true := by kernel_rfl
theorem ba_24_1 : baseArr (Value.cells (.int .i64 (0))) (1 * 1) = #[(.int .i64 (0))] := by kernel_rfl
theorem ap_49 : apK Try.prog 49 = some (1, 24) := by kernel_rfl
theorem ni_49 : notInt Try.prog 49 = true := by kernel_rfl
theorem fa_55_0 : fieldAt Try.prog 55 0 = some (0, 1) := by kernel_rfl
theorem fa_55_1 : fieldAt Try.prog 55 1 = some (1, 1) := by kernel_rfl
theorem lk_78 : lenK Try.prog 78 = some .sl := by kernel_rfl
theorem fa_110_0 : fieldAt Try.prog 110 0 = some (0, 1) := by kernel_rfl
theorem ia_108 : aggK Try.prog 108 = some (false, 1) := by kernel_rfl
theorem fa_110_1 : fieldAt Try.prog 110 1 = some (1, 1) := by kernel_rfl
theorem ia_91 : aggK Try.prog 91 = some (false, 1) := by kernel_rfl
theorem ze_94 : zeroE Try.prog 94 = some (.int .u32 (0)) := by kernel_rfl
theorem ba_94_1 : baseArr (Value.cells (.int .u32 (0))) (1 * 1) = #[(.int .u32 (0))] := by kernel_rfl
theorem ap_94 : apK Try.prog 94 = some (1, 4) := by kernel_rfl
theorem ni_94 : notInt Try.prog 94 = true := by kernel_rfl
theorem za_90 : zeroA Try.prog 90 = some (.agg #[(.slice none 0 0), (.pointer none), (.pointer none)]) := by kernel_rfl
theorem pl_90 : plK Try.prog 90 = some [(0, 1), (1, 1), (2, 1)] := by kernel_rfl
theorem za_85 : zeroA Try.prog 85 = some (.pointer none) := by kernel_rfl
theorem sz_85 : aggSize Try.prog 85 = some 1 := by kernel_rfl
theorem ia_85 : aggK Try.prog 85 = some (false, 1) := by kernel_rfl
theorem za_110 : zeroA Try.prog 110 = some (.agg #[(.map none), .nilFunc]) := by kernel_rfl
theorem pl_110 : plK Try.prog 110 = some [(0, 1), (1, 1)] := by kernel_rfl
theorem sz_88 : aggSize Try.prog 88 = some 1 := by kernel_rfl
theorem es_78 : elemK Try.prog 78 = some (none, 2) := by kernel_rfl
theorem ia_79 : aggK Try.prog 79 = some (false, 1) := by kernel_rfl
theorem ia_55 : aggK Try.prog 55 = some (true, 2) := by kernel_rfl

end Go.Proofs.Ytfccmddkblbeoaa.rk
