/-
  Names for the nodes of the code of some functions (projections of their bodies), the step of each node, and the facts of types that they use.
-/
import Derived.Test.YtfccmddkblbeoaaKp
namespace Go.Proofs.Ytfccmddkblbeoaa.rk
open Go.GE
set_option maxRecDepth 100000
variable (E : Ev) (cx : Cx) (st : St) (f nt b : Nat) (ro : Option Nat)
noncomputable def n8_0 : Code := bodyOf Try.f8
noncomputable def n8_1 : Code := cl n8_0
noncomputable def q8_1 : List Oper := opsOf n8_1
noncomputable def n8_2 : Code := cr n8_0
noncomputable def n8_3 : Code := cl n8_2
noncomputable def q8_3 : List Oper := opsOf n8_3
noncomputable def n8_4 : Code := cr n8_2
noncomputable def n8_5 : Code := cl n8_4
noncomputable def q8_5 : List Oper := opsOf n8_5
noncomputable def n8_6 : Code := cr n8_4
noncomputable def n8_7 : Code := cl n8_6
noncomputable def q8_7 : List Oper := opsOf n8_7
noncomputable def n8_8 : Code := cr n8_6
noncomputable def n8_9 : Code := cl n8_8
noncomputable def q8_9 : List Oper := opsOf n8_9
noncomputable def n8_10 : Code := cr n8_8
noncomputable def n8_11 : Code := cl n8_10
noncomputable def q8_11 : List Oper := opsOf n8_11
noncomputable def n8_12 : Code := cr n8_10
noncomputable def n8_13 : Code := cl n8_12
noncomputable def q8_13 : List Oper := opsOf n8_13
noncomputable def n8_14 : Code := cr n8_12
noncomputable def n8_15 : Code := cl n8_14
noncomputable def n8_16 : Code := cl n8_15
noncomputable def q8_16 : List Oper := opsOf n8_16
noncomputable def n8_17 : Code := cr n8_15
noncomputable def n8_18 : Code := cl n8_17
noncomputable def n8_19 : Code := cl n8_18
noncomputable def q8_19 : List Oper := opsOf n8_19
noncomputable def n8_20 : Code := cr n8_18
noncomputable def n8_21 : Code := cr n8_17
noncomputable def n8_22 : Code := cr n8_14
noncomputable def n8_23 : Code := cl n8_22
noncomputable def q8_23 : List Oper := opsOf n8_23
noncomputable def n8_24 : Code := cr n8_22
noncomputable def n8_25 : Code := cl n8_24
noncomputable def n8_26 : Code := cl n8_25
noncomputable def q8_26 : List Oper := opsOf n8_26
noncomputable def n8_27 : Code := cr n8_25
noncomputable def n8_28 : Code := cl n8_27
noncomputable def n8_29 : Code := cl n8_28
noncomputable def n8_30 : Code := cl n8_29
noncomputable def q8_30 : List Oper := opsOf n8_30
noncomputable def n8_31 : Code := cr n8_29
noncomputable def n8_32 : Code := cl n8_31
noncomputable def n8_33 : Code := cl n8_32
noncomputable def n8_34 : Code := cr n8_32
noncomputable def n8_35 : Code := cr n8_31
noncomputable def n8_36 : Code := cl n8_35
noncomputable def n8_37 : Code := cl n8_36
noncomputable def n8_38 : Code := cl n8_37
noncomputable def q8_38 : List Oper := opsOf n8_38
noncomputable def n8_39 : Code := cr n8_37
noncomputable def n8_40 : Code := cl n8_39
noncomputable def q8_40 : List Oper := opsOf n8_40
noncomputable def n8_41 : Code := cr n8_39
noncomputable def n8_42 : Code := cl n8_41
noncomputable def n8_43 : Code := cl n8_42
noncomputable def q8_43 : List Oper := opsOf n8_43
noncomputable def n8_44 : Code := cr n8_42
noncomputable def n8_45 : Code := cl n8_44
noncomputable def n8_46 : Code := cl n8_45
noncomputable def n8_47 : Code := cl n8_46
noncomputable def q8_47 : List Oper := opsOf n8_47
noncomputable def n8_48 : Code := cr n8_46
noncomputable def n8_49 : Code := cl n8_48
noncomputable def n8_50 : Code := cl n8_49
noncomputable def n8_51 : Code := cr n8_49
noncomputable def n8_52 : Code := cr n8_48
noncomputable def n8_53 : Code := cl n8_52
noncomputable def n8_54 : Code := cl n8_53
noncomputable def n8_55 : Code := cl n8_54
noncomputable def q8_55 : List Oper := opsOf n8_55
noncomputable def n8_56 : Code := cr n8_54
noncomputable def n8_57 : Code := cl n8_56
noncomputable def q8_57 : List Oper := opsOf n8_57
noncomputable def n8_58 : Code := cr n8_56
noncomputable def n8_59 : Code := cl n8_58
noncomputable def n8_60 : Code := cl n8_59
noncomputable def n8_61 : Code := cl n8_60
noncomputable def q8_61 : List Oper := opsOf n8_61
noncomputable def n8_62 : Code := cr n8_60
noncomputable def n8_63 : Code := cl n8_62
noncomputable def n8_64 : Code := cl n8_63
noncomputable def n8_65 : Code := cr n8_63
noncomputable def n8_66 : Code := cr n8_62
noncomputable def n8_67 : Code := cl n8_66
noncomputable def n8_68 : Code := cl n8_67
noncomputable def n8_69 : Code := cl n8_68
noncomputable def q8_69 : List Oper := opsOf n8_69
noncomputable def n8_70 : Code := cr n8_68
noncomputable def n8_71 : Code := cl n8_70
noncomputable def q8_71 : List Oper := opsOf n8_71
noncomputable def n8_72 : Code := cr n8_70
noncomputable def n8_73 : Code := cl n8_72
noncomputable def q8_73 : List Oper := opsOf n8_73
noncomputable def n8_74 : Code := cr n8_72
noncomputable def n8_75 : Code := cr n8_66
noncomputable def q8_75 : List Oper := opsOf n8_75
noncomputable def n8_76 : Code := cr n8_52
noncomputable def q8_76 : List Oper := opsOf n8_76
noncomputable def n8_77 : Code := cr n8_41
noncomputable def n8_78 : Code := cl n8_77
noncomputable def n8_79 : Code := cl n8_78
noncomputable def q8_79 : List Oper := opsOf n8_79
noncomputable def n8_80 : Code := cr n8_78
noncomputable def n8_81 : Code := cl n8_80
noncomputable def n8_82 : Code := cl n8_81
noncomputable def q8_82 : List Oper := opsOf n8_82
noncomputable def n8_83 : Code := cr n8_81
noncomputable def n8_84 : Code := cr n8_80
noncomputable def n8_85 : Code := cr n8_77
noncomputable def n8_86 : Code := cl n8_85
noncomputable def n8_87 : Code := cl n8_86
noncomputable def q8_87 : List Oper := opsOf n8_87
noncomputable def n8_88 : Code := cr n8_86
noncomputable def n8_89 : Code := cl n8_88
noncomputable def n8_90 : Code := cl n8_89
noncomputable def n8_91 : Code := cl n8_90
noncomputable def q8_91 : List Oper := opsOf n8_91
noncomputable def n8_92 : Code := cr n8_90
noncomputable def n8_93 : Code := cl n8_92
noncomputable def n8_94 : Code := cl n8_93
noncomputable def n8_95 : Code := cr n8_93
noncomputable def n8_96 : Code := cr n8_92
noncomputable def n8_97 : Code := cl n8_96
noncomputable def n8_98 : Code := cl n8_97
noncomputable def n8_99 : Code := cl n8_98
noncomputable def q8_99 : List Oper := opsOf n8_99
noncomputable def n8_100 : Code := cr n8_98
noncomputable def n8_101 : Code := cl n8_100
noncomputable def q8_101 : List Oper := opsOf n8_101
noncomputable def n8_102 : Code := cr n8_100
noncomputable def n8_103 : Code := cl n8_102
noncomputable def q8_103 : List Oper := opsOf n8_103
noncomputable def n8_104 : Code := cr n8_102
noncomputable def n8_105 : Code := cr n8_96
noncomputable def q8_105 : List Oper := opsOf n8_105
noncomputable def n8_106 : Code := cr n8_85
noncomputable def n8_107 : Code := cl n8_106
noncomputable def n8_108 : Code := cl n8_107
noncomputable def q8_108 : List Oper := opsOf n8_108
noncomputable def n8_109 : Code := cr n8_107
noncomputable def n8_110 : Code := cl n8_109
noncomputable def q8_110 : List Oper := opsOf n8_110
noncomputable def n8_111 : Code := cr n8_109
noncomputable def n8_112 : Code := cr n8_106
noncomputable def n8_113 : Code := cl n8_112
noncomputable def q8_113 : List Oper := opsOf n8_113
noncomputable def n8_114 : Code := cr n8_112
noncomputable def n8_115 : Code := cl n8_114
noncomputable def q8_115 : List Oper := opsOf n8_115
noncomputable def n8_116 : Code := cr n8_114
noncomputable def n8_117 : Code := cr n8_35
noncomputable def q8_117 : List Oper := opsOf n8_117
noncomputable def n8_118 : Code := cr n8_24
noncomputable def n8_119 : Code := cl n8_118
noncomputable def q8_119 : List Oper := opsOf n8_119
noncomputable def n8_120 : Code := cr n8_118
noncomputable def n8_121 : Code := cl n8_120
noncomputable def n8_122 : Code := cl n8_121
noncomputable def q8_122 : List Oper := opsOf n8_122
noncomputable def n8_123 : Code := cr n8_121
noncomputable def n8_124 : Code := cl n8_123
noncomputable def n8_125 : Code := cl n8_124
noncomputable def n8_126 : Code := cl n8_125
noncomputable def q8_126 : List Oper := opsOf n8_126
noncomputable def n8_127 : Code := cr n8_125
noncomputable def n8_128 : Code := cl n8_127
noncomputable def n8_129 : Code := cl n8_128
noncomputable def n8_130 : Code := cr n8_128
noncomputable def n8_131 : Code := cr n8_127
noncomputable def n8_132 : Code := cl n8_131
noncomputable def n8_133 : Code := cl n8_132
noncomputable def n8_134 : Code := cl n8_133
noncomputable def q8_134 : List Oper := opsOf n8_134
noncomputable def n8_135 : Code := cr n8_133
noncomputable def n8_136 : Code := cl n8_135
noncomputable def q8_136 : List Oper := opsOf n8_136
noncomputable def n8_137 : Code := cr n8_135
noncomputable def n8_138 : Code := cl n8_137
noncomputable def n8_139 : Code := cl n8_138
noncomputable def q8_139 : List Oper := opsOf n8_139
noncomputable def n8_140 : Code := cr n8_138
noncomputable def n8_141 : Code := cl n8_140
noncomputable def n8_142 : Code := cl n8_141
noncomputable def n8_143 : Code := cl n8_142
noncomputable def q8_143 : List Oper := opsOf n8_143
noncomputable def n8_144 : Code := cr n8_142
noncomputable def n8_145 : Code := cl n8_144
noncomputable def n8_146 : Code := cl n8_145
noncomputable def n8_147 : Code := cr n8_145
noncomputable def n8_148 : Code := cr n8_144
noncomputable def n8_149 : Code := cl n8_148
noncomputable def n8_150 : Code := cl n8_149
noncomputable def n8_151 : Code := cl n8_150
noncomputable def q8_151 : List Oper := opsOf n8_151
noncomputable def n8_152 : Code := cr n8_150
noncomputable def q8_152 : List Oper := opsOf n8_152
noncomputable def n8_153 : Code := cr n8_148
noncomputable def q8_153 : List Oper := opsOf n8_153
noncomputable def n8_154 : Code := cr n8_137
noncomputable def q8_154 : List Oper := opsOf n8_154
noncomputable def n8_155 : Code := cr n8_131
noncomputable def q8_155 : List Oper := opsOf n8_155
noncomputable def n8_156 : Code := cr n8_120
noncomputable def n8_157 : Code := cl n8_156
noncomputable def q8_157 : List Oper := opsOf n8_157
noncomputable def n8_158 : Code := cr n8_156
theorem body8 : Try.f8.body = some n8_0 := by kernel_rfl
theorem run8 (E : Ev) (args : List Value) (h : List Blk) (hl : args.length ≤ 188) : runB Try.prog E 8 args h = endS Try.prog [.tmp 4] h.length (codeB Try.prog E ⟨8, 188, h.length, none⟩ n8_0 ⟨enumT 0 args, h, []⟩) := GE.run_step Try.func8 body8 (by kernel_rfl) (by decide) (by kernel_rfl) hl
theorem n8_1s : codeB Try.prog E ⟨f, 188, b, ro⟩ n8_1 st = plainS (runOps Try.prog E b q8_1 (ops [false] Try.f8) st) := GE.region_step (id := 0) (GE.reg_of (by kernel_rfl)) (by kernel_rfl)
theorem n8_3s : codeB Try.prog E ⟨f, 188, b, ro⟩ n8_3 st = plainS (runOps Try.prog E b q8_3 (ops [true, false] Try.f8) st) := GE.region_step (id := 1) (GE.reg_of (by kernel_rfl)) (by kernel_rfl)
theorem n8_5s : codeB Try.prog E ⟨f, 188, b, ro⟩ n8_5 st = plainS (runOps Try.prog E b q8_5 (ops [true, true, false] Try.f8) st) := GE.region_step (id := 2) (GE.reg_of (by kernel_rfl)) (by kernel_rfl)
theorem n8_7s : codeB Try.prog E ⟨f, 188, b, ro⟩ n8_7 st = plainS (runOps Try.prog E b q8_7 (ops [true, true, true, false] Try.f8) st) := GE.region_step (id := 3) (GE.reg_of (by kernel_rfl)) (by kernel_rfl)
theorem n8_9s : codeB Try.prog E ⟨f, 188, b, ro⟩ n8_9 st = plainS (runOps Try.prog E b q8_9 (ops [true, true, true, true, false] Try.f8) st) := GE.region_step (id := 4) (GE.reg_of (by kernel_rfl)) (by kernel_rfl)
theorem n8_11s : codeB Try.prog E ⟨f, 188, b, ro⟩ n8_11 st = plainS (runOps Try.prog E b q8_11 (ops [true, true, true, true, true, false] Try.f8) st) := GE.region_step (id := 5) (GE.reg_of (by kernel_rfl)) (by kernel_rfl)
theorem n8_13s : codeB Try.prog E ⟨f, 188, b, ro⟩ n8_13 st = plainS (runOps Try.prog E b q8_13 (ops [true, true, true, true, true, true, false] Try.f8) st) := GE.region_step (id := 6) (GE.reg_of (by kernel_rfl)) (by kernel_rfl)
theorem q8_16g2 : gd q8_16 2 = some 63 := by kernel_rfl
theorem q8_16g6 : gd q8_16 6 = some 67 := by kernel_rfl
theorem q8_16g10 : gd q8_16 10 = some 71 := by kernel_rfl
theorem n8_16s : codeB Try.prog E ⟨f, 188, b, ro⟩ n8_16 st = plainS (runOps Try.prog E b q8_16 (ops [true, true, true, true, true, true, true, false, false] Try.f8) st) := GE.region_step (id := 7) (GE.reg_of (by kernel_rfl)) (by kernel_rfl)
theorem n8_19s : codeB Try.prog E ⟨f, 188, b, ro⟩ n8_19 st = plainS (runOps Try.prog E b q8_19 (ops [true, true, true, true, true, true, true, false, true, false, false] Try.f8) st) := GE.region_step (id := 8) (GE.reg_of (by kernel_rfl)) (by kernel_rfl)
theorem n8_20s : codeB Try.prog LL ⟨8, 188, b, ro⟩ n8_20 st = normS b ⟨[4], []⟩ .ret st := GE.ret_step (by kernel_rfl) (by kernel_rfl)
theorem n8_18s : codeB Try.prog E cx n8_18 st = thenS (codeB Try.prog E cx n8_19 st) (codeB Try.prog E cx n8_20) := GE.seq_step (by kernel_rfl)
theorem n8_21s : codeB Try.prog E cx n8_21 st = some (.normal, st) := GE.skip_step (by kernel_rfl)
theorem n8_17s : codeB Try.prog E cx n8_17 st = condS (codeB Try.prog E cx n8_18) (codeB Try.prog E cx n8_21) (lk st.σ 77) st := GE.cond_step (c := .tmp 77) (by kernel_rfl)
theorem n8_15s : codeB Try.prog E cx n8_15 st = thenS (codeB Try.prog E cx n8_16 st) (codeB Try.prog E cx n8_17) := GE.seq_step (by kernel_rfl)
theorem n8_23s : codeB Try.prog E ⟨f, 188, b, ro⟩ n8_23 st = plainS (runOps Try.prog E b q8_23 (ops [true, true, true, true, true, true, true, true, false] Try.f8) st) := GE.region_step (id := 9) (GE.reg_of (by kernel_rfl)) (by kernel_rfl)
theorem n8_26s : codeB Try.prog E ⟨f, 188, b, ro⟩ n8_26 st = plainS (runOps Try.prog E b q8_26 (ops [true, true, true, true, true, true, true, true, true, false, false] Try.f8) st) := GE.region_step (id := 10) (GE.reg_of (by kernel_rfl)) (by kernel_rfl)
theorem n8_30s : codeB Try.prog E ⟨f, 188, b, ro⟩ n8_30 st = plainS (runOps Try.prog E b q8_30 (ops [true, true, true, true, true, true, true, true, true, false, true, false, false, false] Try.f8) st) := GE.region_step (id := 11) (GE.reg_of (by kernel_rfl)) (by kernel_rfl)
theorem n8_33s : codeB Try.prog E cx n8_33 st = some (.normal, st) := GE.skip_step (by kernel_rfl)
theorem n8_34s : codeB Try.prog LL ⟨8, 188, b, ro⟩ n8_34 st = normS b ⟨[6, 10, 11, 13, 15, 16, 7], [⟨7, 0, 1, false⟩, ⟨10, 0, 1, true⟩, ⟨11, 0, 1, true⟩, ⟨15, 0, 1, true⟩, ⟨16, 0, 1, true⟩]⟩ (.exit 0) st := GE.exit_step (by kernel_rfl) (by kernel_rfl)
theorem n8_32s : codeB Try.prog E cx n8_32 st = condS (codeB Try.prog E cx n8_33) (codeB Try.prog E cx n8_34) (lk st.σ 81) st := GE.cond_step (c := .tmp 81) (by kernel_rfl)
theorem n8_38s : codeB Try.prog E ⟨f, 188, b, ro⟩ n8_38 st = plainS (runOps Try.prog E b q8_38 (ops [true, true, true, true, true, true, true, true, true, false, true, false, false, true, true, false, false, false] Try.f8) st) := GE.region_step (id := 12) (GE.reg_of (by kernel_rfl)) (by kernel_rfl)
theorem n8_40s : codeB Try.prog E ⟨f, 188, b, ro⟩ n8_40 st = plainS (runOps Try.prog E b q8_40 (ops [true, true, true, true, true, true, true, true, true, false, true, false, false, true, true, false, false, true, false] Try.f8) st) := GE.region_step (id := 13) (GE.reg_of (by kernel_rfl)) (by kernel_rfl)
theorem n8_43s : codeB Try.prog E ⟨f, 188, b, ro⟩ n8_43 st = plainS (runOps Try.prog E b q8_43 (ops [true, true, true, true, true, true, true, true, true, false, true, false, false, true, true, false, false, true, true, false, false] Try.f8) st) := GE.region_step (id := 14) (GE.reg_of (by kernel_rfl)) (by kernel_rfl)
theorem n8_47s : codeB Try.prog E ⟨f, 188, b, ro⟩ n8_47 st = plainS (runOps Try.prog E b q8_47 (ops [true, true, true, true, true, true, true, true, true, false, true, false, false, true, true, false, false, true, true, false, true, false, false, false] Try.f8) st) := GE.region_step (id := 15) (GE.reg_of (by kernel_rfl)) (by kernel_rfl)
theorem n8_50s : codeB Try.prog E cx n8_50 st = some (.normal, st) := GE.skip_step (by kernel_rfl)
theorem n8_51s : codeB Try.prog LL ⟨8, 188, b, ro⟩ n8_51 st = normS b ⟨[17, 18, 19, 20, 5, 6, 8, 10, 11, 13, 15, 16, 79, 80, 7], [⟨5, 0, 2, true⟩, ⟨7, 0, 1, false⟩, ⟨8, 0, 2, true⟩, ⟨10, 0, 1, true⟩, ⟨11, 0, 1, true⟩, ⟨15, 0, 1, true⟩, ⟨16, 0, 1, true⟩]⟩ (.exit 2) st := GE.exit_step (by kernel_rfl) (by kernel_rfl)
theorem n8_49s : codeB Try.prog E cx n8_49 st = condS (codeB Try.prog E cx n8_50) (codeB Try.prog E cx n8_51) (lk st.σ 88) st := GE.cond_step (c := .tmp 88) (by kernel_rfl)
theorem n8_55s : codeB Try.prog E ⟨f, 188, b, ro⟩ n8_55 st = plainS (runOps Try.prog E b q8_55 (ops [true, true, true, true, true, true, true, true, true, false, true, false, false, true, true, false, false, true, true, false, true, false, false, true, true, false, false, false] Try.f8) st) := GE.region_step (id := 16) (GE.reg_of (by kernel_rfl)) (by kernel_rfl)
theorem n8_57s : codeB Try.prog E ⟨f, 188, b, ro⟩ n8_57 st = plainS (runOps Try.prog E b q8_57 (ops [true, true, true, true, true, true, true, true, true, false, true, false, false, true, true, false, false, true, true, false, true, false, false, true, true, false, false, true, false] Try.f8) st) := GE.region_step (id := 17) (GE.reg_of (by kernel_rfl)) (by kernel_rfl)
theorem n8_61s : codeB Try.prog E ⟨f, 188, b, ro⟩ n8_61 st = plainS (runOps Try.prog E b q8_61 (ops [true, true, true, true, true, true, true, true, true, false, true, false, false, true, true, false, false, true, true, false, true, false, false, true, true, false, false, true, true, false, false, false] Try.f8) st) := GE.region_step (id := 18) (GE.reg_of (by kernel_rfl)) (by kernel_rfl)
theorem n8_64s : codeB Try.prog E cx n8_64 st = some (.normal, st) := GE.skip_step (by kernel_rfl)
theorem n8_65s : codeB Try.prog LL ⟨8, 188, b, ro⟩ n8_65 st = normS b ⟨[17, 18, 19, 20, 86, 87, 5, 6, 8, 10, 11, 13, 15, 16, 79, 80, 7, 85], [⟨85, 0, 1, false⟩, ⟨5, 0, 2, true⟩, ⟨7, 0, 1, false⟩, ⟨8, 0, 2, true⟩, ⟨10, 0, 1, true⟩, ⟨11, 0, 1, true⟩, ⟨15, 0, 1, true⟩, ⟨16, 0, 1, true⟩]⟩ (.exit 4) st := GE.exit_step (by kernel_rfl) (by kernel_rfl)
theorem n8_63s : codeB Try.prog E cx n8_63 st = condS (codeB Try.prog E cx n8_64) (codeB Try.prog E cx n8_65) (lk st.σ 94) st := GE.cond_step (c := .tmp 94) (by kernel_rfl)
theorem n8_69s : codeB Try.prog E ⟨f, 188, b, ro⟩ n8_69 st = plainS (runOps Try.prog E b q8_69 (ops [true, true, true, true, true, true, true, true, true, false, true, false, false, true, true, false, false, true, true, false, true, false, false, true, true, false, false, true, true, false, false, true, true, false, false, false] Try.f8) st) := GE.region_step (id := 19) (GE.reg_of (by kernel_rfl)) (by kernel_rfl)
theorem n8_71s : codeB Try.prog E ⟨f, 188, b, ro⟩ n8_71 st = plainS (runOps Try.prog E b q8_71 (ops [true, true, true, true, true, true, true, true, true, false, true, false, false, true, true, false, false, true, true, false, true, false, false, true, true, false, false, true, true, false, false, true, true, false, false, true, false] Try.f8) st) := GE.region_step (id := 20) (GE.reg_of (by kernel_rfl)) (by kernel_rfl)
theorem n8_73s : codeB Try.prog E ⟨f, 188, b, ro⟩ n8_73 st = plainS (runOps Try.prog E b q8_73 (ops [true, true, true, true, true, true, true, true, true, false, true, false, false, true, true, false, false, true, true, false, true, false, false, true, true, false, false, true, true, false, false, true, true, false, false, true, true, false] Try.f8) st) := GE.region_step (id := 21) (GE.reg_of (by kernel_rfl)) (by kernel_rfl)
theorem n8_74s : codeB Try.prog E cx n8_74 st = some (.normal, st) := GE.skip_step (by kernel_rfl)
theorem n8_72s : codeB Try.prog E cx n8_72 st = condS (codeB Try.prog E cx n8_73) (codeB Try.prog E cx n8_74) (lk st.σ 100) st := GE.cond_step (c := .tmp 100) (by kernel_rfl)
theorem n8_70s : codeB Try.prog E cx n8_70 st = thenS (codeB Try.prog E cx n8_71 st) (codeB Try.prog E cx n8_72) := GE.seq_step (by kernel_rfl)
theorem n8_68s : codeB Try.prog E cx n8_68 st = thenS (codeB Try.prog E cx n8_69 st) (codeB Try.prog E cx n8_70) := GE.seq_step (by kernel_rfl)
theorem n8_67s : codeB Try.prog E cx n8_67 st = blockS 5 (codeB Try.prog E cx n8_68 st) st := GE.block_step (by kernel_rfl)
theorem n8_75s : codeB Try.prog E ⟨f, 188, b, ro⟩ n8_75 st = plainS (runOps Try.prog E b q8_75 (ops [true, true, true, true, true, true, true, true, true, false, true, false, false, true, true, false, false, true, true, false, true, false, false, true, true, false, false, true, true, false, false, true, true, true] Try.f8) st) := GE.region_step (id := 22) (GE.reg_of (by kernel_rfl)) (by kernel_rfl)
theorem n8_66s : codeB Try.prog E cx n8_66 st = thenS (codeB Try.prog E cx n8_67 st) (codeB Try.prog E cx n8_75) := GE.seq_step (by kernel_rfl)
theorem n8_62s : codeB Try.prog E cx n8_62 st = thenS (codeB Try.prog E cx n8_63 st) (codeB Try.prog E cx n8_66) := GE.seq_step (by kernel_rfl)
theorem n8_60s : codeB Try.prog E cx n8_60 st = thenS (codeB Try.prog E cx n8_61 st) (codeB Try.prog E cx n8_62) := GE.seq_step (by kernel_rfl)
theorem n8_59k : LL.kp (⟨8, 188, b, ro⟩ : Cx).fn (4 * rid n8_60 + 3) = some ⟨[92, 93, 17, 18, 19, 20, 86, 87, 5, 6, 8, 10, 11, 13, 15, 16, 79, 80, 7, 85, 91], [⟨91, 0, 1, true⟩, ⟨85, 0, 1, false⟩, ⟨5, 0, 2, true⟩, ⟨7, 0, 1, false⟩, ⟨8, 0, 2, true⟩, ⟨10, 0, 1, true⟩, ⟨11, 0, 1, true⟩, ⟨15, 0, 1, true⟩, ⟨16, 0, 1, true⟩]⟩ := by kernel_rfl
theorem n8_59s : codeB Try.prog LL ⟨8, 188, b, ro⟩ n8_59 st = headS b ⟨[92, 93, 17, 18, 19, 20, 86, 87, 5, 6, 8, 10, 11, 13, 15, 16, 79, 80, 7, 85, 91], [⟨91, 0, 1, true⟩, ⟨85, 0, 1, false⟩, ⟨5, 0, 2, true⟩, ⟨7, 0, 1, false⟩, ⟨8, 0, 2, true⟩, ⟨10, 0, 1, true⟩, ⟨11, 0, 1, true⟩, ⟨15, 0, 1, true⟩, ⟨16, 0, 1, true⟩]⟩ st (lpB Try.prog LL ⟨8, 188, b, ro⟩ n8_59 n8_60) := GE.lpB_step (by kernel_rfl) (n8_59k b ro)
theorem n8_59g : LL.code ⟨8, 188, b, ro⟩ n8_59 st = headS b ⟨[92, 93, 17, 18, 19, 20, 86, 87, 5, 6, 8, 10, 11, 13, 15, 16, 79, 80, 7, 85, 91], [⟨91, 0, 1, true⟩, ⟨85, 0, 1, false⟩, ⟨5, 0, 2, true⟩, ⟨7, 0, 1, false⟩, ⟨8, 0, 2, true⟩, ⟨10, 0, 1, true⟩, ⟨11, 0, 1, true⟩, ⟨15, 0, 1, true⟩, ⟨16, 0, 1, true⟩]⟩ st (lpB Try.prog LL ⟨8, 188, b, ro⟩ n8_59 n8_60) := GE.lpB_again (by kernel_rfl) (n8_59k b ro)
theorem n8_58s : codeB Try.prog E cx n8_58 st = blockS 4 (codeB Try.prog E cx n8_59 st) st := GE.block_step (by kernel_rfl)
theorem n8_56s : codeB Try.prog E cx n8_56 st = thenS (codeB Try.prog E cx n8_57 st) (codeB Try.prog E cx n8_58) := GE.seq_step (by kernel_rfl)
theorem n8_54s : codeB Try.prog E cx n8_54 st = thenS (codeB Try.prog E cx n8_55 st) (codeB Try.prog E cx n8_56) := GE.seq_step (by kernel_rfl)
theorem n8_53s : codeB Try.prog E cx n8_53 st = blockS 3 (codeB Try.prog E cx n8_54 st) st := GE.block_step (by kernel_rfl)
theorem n8_76s : codeB Try.prog E ⟨f, 188, b, ro⟩ n8_76 st = plainS (runOps Try.prog E b q8_76 (ops [true, true, true, true, true, true, true, true, true, false, true, false, false, true, true, false, false, true, true, false, true, false, false, true, true, true] Try.f8) st) := GE.region_step (id := 23) (GE.reg_of (by kernel_rfl)) (by kernel_rfl)
theorem n8_52s : codeB Try.prog E cx n8_52 st = thenS (codeB Try.prog E cx n8_53 st) (codeB Try.prog E cx n8_76) := GE.seq_step (by kernel_rfl)
theorem n8_48s : codeB Try.prog E cx n8_48 st = thenS (codeB Try.prog E cx n8_49 st) (codeB Try.prog E cx n8_52) := GE.seq_step (by kernel_rfl)
theorem n8_46s : codeB Try.prog E cx n8_46 st = thenS (codeB Try.prog E cx n8_47 st) (codeB Try.prog E cx n8_48) := GE.seq_step (by kernel_rfl)
theorem n8_45k : LL.kp (⟨8, 188, b, ro⟩ : Cx).fn (4 * rid n8_46 + 3) = some ⟨[17, 18, 19, 20, 86, 87, 5, 6, 8, 10, 11, 13, 15, 16, 79, 80, 7, 85], [⟨85, 0, 1, false⟩, ⟨5, 0, 2, true⟩, ⟨7, 0, 1, false⟩, ⟨8, 0, 2, true⟩, ⟨10, 0, 1, true⟩, ⟨11, 0, 1, true⟩, ⟨15, 0, 1, true⟩, ⟨16, 0, 1, true⟩]⟩ := by kernel_rfl
theorem n8_45s : codeB Try.prog LL ⟨8, 188, b, ro⟩ n8_45 st = headS b ⟨[17, 18, 19, 20, 86, 87, 5, 6, 8, 10, 11, 13, 15, 16, 79, 80, 7, 85], [⟨85, 0, 1, false⟩, ⟨5, 0, 2, true⟩, ⟨7, 0, 1, false⟩, ⟨8, 0, 2, true⟩, ⟨10, 0, 1, true⟩, ⟨11, 0, 1, true⟩, ⟨15, 0, 1, true⟩, ⟨16, 0, 1, true⟩]⟩ st (lpB Try.prog LL ⟨8, 188, b, ro⟩ n8_45 n8_46) := GE.lpB_step (by kernel_rfl) (n8_45k b ro)
theorem n8_45g : LL.code ⟨8, 188, b, ro⟩ n8_45 st = headS b ⟨[17, 18, 19, 20, 86, 87, 5, 6, 8, 10, 11, 13, 15, 16, 79, 80, 7, 85], [⟨85, 0, 1, false⟩, ⟨5, 0, 2, true⟩, ⟨7, 0, 1, false⟩, ⟨8, 0, 2, true⟩, ⟨10, 0, 1, true⟩, ⟨11, 0, 1, true⟩, ⟨15, 0, 1, true⟩, ⟨16, 0, 1, true⟩]⟩ st (lpB Try.prog LL ⟨8, 188, b, ro⟩ n8_45 n8_46) := GE.lpB_again (by kernel_rfl) (n8_45k b ro)
theorem n8_44s : codeB Try.prog E cx n8_44 st = blockS 2 (codeB Try.prog E cx n8_45 st) st := GE.block_step (by kernel_rfl)
theorem n8_42s : codeB Try.prog E cx n8_42 st = thenS (codeB Try.prog E cx n8_43 st) (codeB Try.prog E cx n8_44) := GE.seq_step (by kernel_rfl)
theorem n8_79s : codeB Try.prog E ⟨f, 188, b, ro⟩ n8_79 st = plainS (runOps Try.prog E b q8_79 (ops [true, true, true, true, true, true, true, true, true, false, true, false, false, true, true, false, false, true, true, true, false, false] Try.f8) st) := GE.region_step (id := 24) (GE.reg_of (by kernel_rfl)) (by kernel_rfl)
theorem n8_82s : codeB Try.prog E ⟨f, 188, b, ro⟩ n8_82 st = plainS (runOps Try.prog E b q8_82 (ops [true, true, true, true, true, true, true, true, true, false, true, false, false, true, true, false, false, true, true, true, false, true, false, false] Try.f8) st) := GE.region_step (id := 25) (GE.reg_of (by kernel_rfl)) (by kernel_rfl)
theorem n8_83s : codeB Try.prog LL ⟨8, 188, b, ro⟩ n8_83 st = normS b ⟨[4], []⟩ .ret st := GE.ret_step (by kernel_rfl) (by kernel_rfl)
theorem n8_81s : codeB Try.prog E cx n8_81 st = thenS (codeB Try.prog E cx n8_82 st) (codeB Try.prog E cx n8_83) := GE.seq_step (by kernel_rfl)
theorem n8_84s : codeB Try.prog E cx n8_84 st = some (.normal, st) := GE.skip_step (by kernel_rfl)
theorem n8_80s : codeB Try.prog E cx n8_80 st = condS (codeB Try.prog E cx n8_81) (codeB Try.prog E cx n8_84) (lk st.σ 118) st := GE.cond_step (c := .tmp 118) (by kernel_rfl)
theorem n8_78s : codeB Try.prog E cx n8_78 st = thenS (codeB Try.prog E cx n8_79 st) (codeB Try.prog E cx n8_80) := GE.seq_step (by kernel_rfl)
theorem n8_87s : codeB Try.prog E ⟨f, 188, b, ro⟩ n8_87 st = plainS (runOps Try.prog E b q8_87 (ops [true, true, true, true, true, true, true, true, true, false, true, false, false, true, true, false, false, true, true, true, true, false, false] Try.f8) st) := GE.region_step (id := 26) (GE.reg_of (by kernel_rfl)) (by kernel_rfl)
theorem n8_91s : codeB Try.prog E ⟨f, 188, b, ro⟩ n8_91 st = plainS (runOps Try.prog E b q8_91 (ops [true, true, true, true, true, true, true, true, true, false, true, false, false, true, true, false, false, true, true, true, true, false, true, false, false, false] Try.f8) st) := GE.region_step (id := 27) (GE.reg_of (by kernel_rfl)) (by kernel_rfl)
theorem n8_94s : codeB Try.prog E cx n8_94 st = some (.normal, st) := GE.skip_step (by kernel_rfl)
theorem n8_95s : codeB Try.prog LL ⟨8, 188, b, ro⟩ n8_95 st = normS b ⟨[17, 20, 5, 6, 8, 10, 11, 13, 15, 16, 79, 80, 7], [⟨5, 0, 2, true⟩, ⟨7, 0, 1, false⟩, ⟨8, 0, 2, true⟩, ⟨10, 0, 1, true⟩, ⟨11, 0, 1, true⟩, ⟨15, 0, 1, true⟩, ⟨16, 0, 1, true⟩]⟩ (.exit 6) st := GE.exit_step (by kernel_rfl) (by kernel_rfl)
theorem n8_93s : codeB Try.prog E cx n8_93 st = condS (codeB Try.prog E cx n8_94) (codeB Try.prog E cx n8_95) (lk st.σ 122) st := GE.cond_step (c := .tmp 122) (by kernel_rfl)
theorem n8_99s : codeB Try.prog E ⟨f, 188, b, ro⟩ n8_99 st = plainS (runOps Try.prog E b q8_99 (ops [true, true, true, true, true, true, true, true, true, false, true, false, false, true, true, false, false, true, true, true, true, false, true, false, false, true, true, false, false, false] Try.f8) st) := GE.region_step (id := 28) (GE.reg_of (by kernel_rfl)) (by kernel_rfl)
theorem n8_101s : codeB Try.prog E ⟨f, 188, b, ro⟩ n8_101 st = plainS (runOps Try.prog E b q8_101 (ops [true, true, true, true, true, true, true, true, true, false, true, false, false, true, true, false, false, true, true, true, true, false, true, false, false, true, true, false, false, true, false] Try.f8) st) := GE.region_step (id := 29) (GE.reg_of (by kernel_rfl)) (by kernel_rfl)
theorem n8_103s : codeB Try.prog E ⟨f, 188, b, ro⟩ n8_103 st = plainS (runOps Try.prog E b q8_103 (ops [true, true, true, true, true, true, true, true, true, false, true, false, false, true, true, false, false, true, true, true, true, false, true, false, false, true, true, false, false, true, true, false] Try.f8) st) := GE.region_step (id := 30) (GE.reg_of (by kernel_rfl)) (by kernel_rfl)
theorem n8_104s : codeB Try.prog E cx n8_104 st = some (.normal, st) := GE.skip_step (by kernel_rfl)
theorem n8_102s : codeB Try.prog E cx n8_102 st = condS (codeB Try.prog E cx n8_103) (codeB Try.prog E cx n8_104) (lk st.σ 129) st := GE.cond_step (c := .tmp 129) (by kernel_rfl)
theorem n8_100s : codeB Try.prog E cx n8_100 st = thenS (codeB Try.prog E cx n8_101 st) (codeB Try.prog E cx n8_102) := GE.seq_step (by kernel_rfl)
theorem n8_98s : codeB Try.prog E cx n8_98 st = thenS (codeB Try.prog E cx n8_99 st) (codeB Try.prog E cx n8_100) := GE.seq_step (by kernel_rfl)
theorem n8_97s : codeB Try.prog E cx n8_97 st = blockS 7 (codeB Try.prog E cx n8_98 st) st := GE.block_step (by kernel_rfl)
theorem n8_105s : codeB Try.prog E ⟨f, 188, b, ro⟩ n8_105 st = plainS (runOps Try.prog E b q8_105 (ops [true, true, true, true, true, true, true, true, true, false, true, false, false, true, true, false, false, true, true, true, true, false, true, false, false, true, true, true] Try.f8) st) := GE.region_step (id := 31) (GE.reg_of (by kernel_rfl)) (by kernel_rfl)
theorem n8_96s : codeB Try.prog E cx n8_96 st = thenS (codeB Try.prog E cx n8_97 st) (codeB Try.prog E cx n8_105) := GE.seq_step (by kernel_rfl)
theorem n8_92s : codeB Try.prog E cx n8_92 st = thenS (codeB Try.prog E cx n8_93 st) (codeB Try.prog E cx n8_96) := GE.seq_step (by kernel_rfl)
theorem n8_90s : codeB Try.prog E cx n8_90 st = thenS (codeB Try.prog E cx n8_91 st) (codeB Try.prog E cx n8_92) := GE.seq_step (by kernel_rfl)
theorem n8_89k : LL.kp (⟨8, 188, b, ro⟩ : Cx).fn (4 * rid n8_90 + 3) = some ⟨[17, 20, 120, 121, 5, 6, 8, 10, 11, 13, 15, 16, 79, 80, 7, 119], [⟨119, 0, 1, false⟩, ⟨5, 0, 2, true⟩, ⟨7, 0, 1, false⟩, ⟨8, 0, 2, true⟩, ⟨10, 0, 1, true⟩, ⟨11, 0, 1, true⟩, ⟨15, 0, 1, true⟩, ⟨16, 0, 1, true⟩]⟩ := by kernel_rfl
theorem n8_89s : codeB Try.prog LL ⟨8, 188, b, ro⟩ n8_89 st = headS b ⟨[17, 20, 120, 121, 5, 6, 8, 10, 11, 13, 15, 16, 79, 80, 7, 119], [⟨119, 0, 1, false⟩, ⟨5, 0, 2, true⟩, ⟨7, 0, 1, false⟩, ⟨8, 0, 2, true⟩, ⟨10, 0, 1, true⟩, ⟨11, 0, 1, true⟩, ⟨15, 0, 1, true⟩, ⟨16, 0, 1, true⟩]⟩ st (lpB Try.prog LL ⟨8, 188, b, ro⟩ n8_89 n8_90) := GE.lpB_step (by kernel_rfl) (n8_89k b ro)
theorem n8_89g : LL.code ⟨8, 188, b, ro⟩ n8_89 st = headS b ⟨[17, 20, 120, 121, 5, 6, 8, 10, 11, 13, 15, 16, 79, 80, 7, 119], [⟨119, 0, 1, false⟩, ⟨5, 0, 2, true⟩, ⟨7, 0, 1, false⟩, ⟨8, 0, 2, true⟩, ⟨10, 0, 1, true⟩, ⟨11, 0, 1, true⟩, ⟨15, 0, 1, true⟩, ⟨16, 0, 1, true⟩]⟩ st (lpB Try.prog LL ⟨8, 188, b, ro⟩ n8_89 n8_90) := GE.lpB_again (by kernel_rfl) (n8_89k b ro)
theorem n8_88s : codeB Try.prog E cx n8_88 st = blockS 6 (codeB Try.prog E cx n8_89 st) st := GE.block_step (by kernel_rfl)
theorem n8_86s : codeB Try.prog E cx n8_86 st = thenS (codeB Try.prog E cx n8_87 st) (codeB Try.prog E cx n8_88) := GE.seq_step (by kernel_rfl)
theorem n8_108s : codeB Try.prog E ⟨f, 188, b, ro⟩ n8_108 st = plainS (runOps Try.prog E b q8_108 (ops [true, true, true, true, true, true, true, true, true, false, true, false, false, true, true, false, false, true, true, true, true, true, false, false] Try.f8) st) := GE.region_step (id := 32) (GE.reg_of (by kernel_rfl)) (by kernel_rfl)
theorem n8_110s : codeB Try.prog E ⟨f, 188, b, ro⟩ n8_110 st = plainS (runOps Try.prog E b q8_110 (ops [true, true, true, true, true, true, true, true, true, false, true, false, false, true, true, false, false, true, true, true, true, true, false, true, false] Try.f8) st) := GE.region_step (id := 33) (GE.reg_of (by kernel_rfl)) (by kernel_rfl)
theorem n8_111s : codeB Try.prog E cx n8_111 st = some (.normal, st) := GE.skip_step (by kernel_rfl)
theorem n8_109s : codeB Try.prog E cx n8_109 st = condS (codeB Try.prog E cx n8_110) (codeB Try.prog E cx n8_111) (lk st.σ 134) st := GE.cond_step (c := .tmp 134) (by kernel_rfl)
theorem n8_107s : codeB Try.prog E cx n8_107 st = thenS (codeB Try.prog E cx n8_108 st) (codeB Try.prog E cx n8_109) := GE.seq_step (by kernel_rfl)
theorem n8_113s : codeB Try.prog E ⟨f, 188, b, ro⟩ n8_113 st = plainS (runOps Try.prog E b q8_113 (ops [true, true, true, true, true, true, true, true, true, false, true, false, false, true, true, false, false, true, true, true, true, true, true, false] Try.f8) st) := GE.region_step (id := 34) (GE.reg_of (by kernel_rfl)) (by kernel_rfl)
theorem n8_115s : codeB Try.prog E ⟨f, 188, b, ro⟩ n8_115 st = plainS (runOps Try.prog E b q8_115 (ops [true, true, true, true, true, true, true, true, true, false, true, false, false, true, true, false, false, true, true, true, true, true, true, true, false] Try.f8) st) := GE.region_step (id := 35) (GE.reg_of (by kernel_rfl)) (by kernel_rfl)
theorem n8_116s : codeB Try.prog E cx n8_116 st = some (.normal, st) := GE.skip_step (by kernel_rfl)
theorem n8_114s : codeB Try.prog E cx n8_114 st = condS (codeB Try.prog E cx n8_115) (codeB Try.prog E cx n8_116) (lk st.σ 142) st := GE.cond_step (c := .tmp 142) (by kernel_rfl)
theorem n8_112s : codeB Try.prog E cx n8_112 st = thenS (codeB Try.prog E cx n8_113 st) (codeB Try.prog E cx n8_114) := GE.seq_step (by kernel_rfl)
theorem n8_106s : codeB Try.prog E cx n8_106 st = thenS (codeB Try.prog E cx n8_107 st) (codeB Try.prog E cx n8_112) := GE.seq_step (by kernel_rfl)
theorem n8_85s : codeB Try.prog E cx n8_85 st = thenS (codeB Try.prog E cx n8_86 st) (codeB Try.prog E cx n8_106) := GE.seq_step (by kernel_rfl)
theorem n8_77s : codeB Try.prog E cx n8_77 st = thenS (codeB Try.prog E cx n8_78 st) (codeB Try.prog E cx n8_85) := GE.seq_step (by kernel_rfl)
theorem n8_41s : codeB Try.prog E cx n8_41 st = thenS (codeB Try.prog E cx n8_42 st) (codeB Try.prog E cx n8_77) := GE.seq_step (by kernel_rfl)
theorem n8_39s : codeB Try.prog E cx n8_39 st = thenS (codeB Try.prog E cx n8_40 st) (codeB Try.prog E cx n8_41) := GE.seq_step (by kernel_rfl)
theorem n8_37s : codeB Try.prog E cx n8_37 st = thenS (codeB Try.prog E cx n8_38 st) (codeB Try.prog E cx n8_39) := GE.seq_step (by kernel_rfl)
theorem n8_36s : codeB Try.prog E cx n8_36 st = blockS 1 (codeB Try.prog E cx n8_37 st) st := GE.block_step (by kernel_rfl)
theorem n8_117s : codeB Try.prog E ⟨f, 188, b, ro⟩ n8_117 st = plainS (runOps Try.prog E b q8_117 (ops [true, true, true, true, true, true, true, true, true, false, true, false, false, true, true, true] Try.f8) st) := GE.region_step (id := 36) (GE.reg_of (by kernel_rfl)) (by kernel_rfl)
theorem n8_35s : codeB Try.prog E cx n8_35 st = thenS (codeB Try.prog E cx n8_36 st) (codeB Try.prog E cx n8_117) := GE.seq_step (by kernel_rfl)
theorem n8_31s : codeB Try.prog E cx n8_31 st = thenS (codeB Try.prog E cx n8_32 st) (codeB Try.prog E cx n8_35) := GE.seq_step (by kernel_rfl)
theorem n8_29s : codeB Try.prog E cx n8_29 st = thenS (codeB Try.prog E cx n8_30 st) (codeB Try.prog E cx n8_31) := GE.seq_step (by kernel_rfl)
theorem n8_28k : LL.kp (⟨8, 188, b, ro⟩ : Cx).fn (4 * rid n8_29 + 3) = some ⟨[5, 6, 8, 10, 11, 13, 15, 16, 79, 80, 7], [⟨5, 0, 2, true⟩, ⟨7, 0, 1, false⟩, ⟨8, 0, 2, true⟩, ⟨10, 0, 1, true⟩, ⟨11, 0, 1, true⟩, ⟨15, 0, 1, true⟩, ⟨16, 0, 1, true⟩]⟩ := by kernel_rfl
theorem n8_28s : codeB Try.prog LL ⟨8, 188, b, ro⟩ n8_28 st = headS b ⟨[5, 6, 8, 10, 11, 13, 15, 16, 79, 80, 7], [⟨5, 0, 2, true⟩, ⟨7, 0, 1, false⟩, ⟨8, 0, 2, true⟩, ⟨10, 0, 1, true⟩, ⟨11, 0, 1, true⟩, ⟨15, 0, 1, true⟩, ⟨16, 0, 1, true⟩]⟩ st (lpB Try.prog LL ⟨8, 188, b, ro⟩ n8_28 n8_29) := GE.lpB_step (by kernel_rfl) (n8_28k b ro)
theorem n8_28g : LL.code ⟨8, 188, b, ro⟩ n8_28 st = headS b ⟨[5, 6, 8, 10, 11, 13, 15, 16, 79, 80, 7], [⟨5, 0, 2, true⟩, ⟨7, 0, 1, false⟩, ⟨8, 0, 2, true⟩, ⟨10, 0, 1, true⟩, ⟨11, 0, 1, true⟩, ⟨15, 0, 1, true⟩, ⟨16, 0, 1, true⟩]⟩ st (lpB Try.prog LL ⟨8, 188, b, ro⟩ n8_28 n8_29) := GE.lpB_again (by kernel_rfl) (n8_28k b ro)
theorem n8_27s : codeB Try.prog E cx n8_27 st = blockS 0 (codeB Try.prog E cx n8_28 st) st := GE.block_step (by kernel_rfl)
theorem n8_25s : codeB Try.prog E cx n8_25 st = thenS (codeB Try.prog E cx n8_26 st) (codeB Try.prog E cx n8_27) := GE.seq_step (by kernel_rfl)
theorem n8_119s : codeB Try.prog E ⟨f, 188, b, ro⟩ n8_119 st = plainS (runOps Try.prog E b q8_119 (ops [true, true, true, true, true, true, true, true, true, true, false] Try.f8) st) := GE.region_step (id := 37) (GE.reg_of (by kernel_rfl)) (by kernel_rfl)
theorem n8_122s : codeB Try.prog E ⟨f, 188, b, ro⟩ n8_122 st = plainS (runOps Try.prog E b q8_122 (ops [true, true, true, true, true, true, true, true, true, true, true, false, false] Try.f8) st) := GE.region_step (id := 38) (GE.reg_of (by kernel_rfl)) (by kernel_rfl)
theorem n8_126s : codeB Try.prog E ⟨f, 188, b, ro⟩ n8_126 st = plainS (runOps Try.prog E b q8_126 (ops [true, true, true, true, true, true, true, true, true, true, true, false, true, false, false, false] Try.f8) st) := GE.region_step (id := 39) (GE.reg_of (by kernel_rfl)) (by kernel_rfl)
theorem n8_129s : codeB Try.prog E cx n8_129 st = some (.normal, st) := GE.skip_step (by kernel_rfl)
theorem n8_130s : codeB Try.prog LL ⟨8, 188, b, ro⟩ n8_130 st = normS b ⟨[10, 11, 13, 15, 16, 27], [⟨10, 0, 1, true⟩, ⟨11, 0, 1, true⟩, ⟨15, 0, 1, true⟩, ⟨16, 0, 1, true⟩]⟩ (.exit 8) st := GE.exit_step (by kernel_rfl) (by kernel_rfl)
theorem n8_128s : codeB Try.prog E cx n8_128 st = condS (codeB Try.prog E cx n8_129) (codeB Try.prog E cx n8_130) (lk st.σ 152) st := GE.cond_step (c := .tmp 152) (by kernel_rfl)
theorem n8_134s : codeB Try.prog E ⟨f, 188, b, ro⟩ n8_134 st = plainS (runOps Try.prog E b q8_134 (ops [true, true, true, true, true, true, true, true, true, true, true, false, true, false, false, true, true, false, false, false] Try.f8) st) := GE.region_step (id := 40) (GE.reg_of (by kernel_rfl)) (by kernel_rfl)
theorem n8_136s : codeB Try.prog E ⟨f, 188, b, ro⟩ n8_136 st = plainS (runOps Try.prog E b q8_136 (ops [true, true, true, true, true, true, true, true, true, true, true, false, true, false, false, true, true, false, false, true, false] Try.f8) st) := GE.region_step (id := 41) (GE.reg_of (by kernel_rfl)) (by kernel_rfl)
theorem n8_139s : codeB Try.prog E ⟨f, 188, b, ro⟩ n8_139 st = plainS (runOps Try.prog E b q8_139 (ops [true, true, true, true, true, true, true, true, true, true, true, false, true, false, false, true, true, false, false, true, true, false, false] Try.f8) st) := GE.region_step (id := 42) (GE.reg_of (by kernel_rfl)) (by kernel_rfl)
theorem n8_143s : codeB Try.prog E ⟨f, 188, b, ro⟩ n8_143 st = plainS (runOps Try.prog E b q8_143 (ops [true, true, true, true, true, true, true, true, true, true, true, false, true, false, false, true, true, false, false, true, true, false, true, false, false, false] Try.f8) st) := GE.region_step (id := 43) (GE.reg_of (by kernel_rfl)) (by kernel_rfl)
theorem n8_146s : codeB Try.prog E cx n8_146 st = some (.normal, st) := GE.skip_step (by kernel_rfl)
theorem n8_147s : codeB Try.prog LL ⟨8, 188, b, ro⟩ n8_147 st = normS b ⟨[30, 6, 10, 11, 13, 15, 16, 27, 150, 151, 149], [⟨10, 0, 1, true⟩, ⟨11, 0, 1, true⟩, ⟨15, 0, 1, true⟩, ⟨16, 0, 1, true⟩, ⟨149, 0, 1, false⟩]⟩ (.exit 10) st := GE.exit_step (by kernel_rfl) (by kernel_rfl)
theorem n8_145s : codeB Try.prog E cx n8_145 st = condS (codeB Try.prog E cx n8_146) (codeB Try.prog E cx n8_147) (lk st.σ 160) st := GE.cond_step (c := .tmp 160) (by kernel_rfl)
theorem n8_151s : codeB Try.prog E ⟨f, 188, b, ro⟩ n8_151 st = plainS (runOps Try.prog E b q8_151 (ops [true, true, true, true, true, true, true, true, true, true, true, false, true, false, false, true, true, false, false, true, true, false, true, false, false, true, true, false, false, false] Try.f8) st) := GE.region_step (id := 44) (GE.reg_of (by kernel_rfl)) (by kernel_rfl)
theorem n8_152s : codeB Try.prog E ⟨f, 188, b, ro⟩ n8_152 st = plainS (runOps Try.prog E b q8_152 (ops [true, true, true, true, true, true, true, true, true, true, true, false, true, false, false, true, true, false, false, true, true, false, true, false, false, true, true, false, false, true] Try.f8) st) := GE.region_step (id := 45) (GE.reg_of (by kernel_rfl)) (by kernel_rfl)
theorem n8_150s : codeB Try.prog E cx n8_150 st = thenS (codeB Try.prog E cx n8_151 st) (codeB Try.prog E cx n8_152) := GE.seq_step (by kernel_rfl)
theorem n8_149s : codeB Try.prog E cx n8_149 st = blockS 11 (codeB Try.prog E cx n8_150 st) st := GE.block_step (by kernel_rfl)
theorem n8_153s : codeB Try.prog E ⟨f, 188, b, ro⟩ n8_153 st = plainS (runOps Try.prog E b q8_153 (ops [true, true, true, true, true, true, true, true, true, true, true, false, true, false, false, true, true, false, false, true, true, false, true, false, false, true, true, true] Try.f8) st) := GE.region_step (id := 46) (GE.reg_of (by kernel_rfl)) (by kernel_rfl)
theorem n8_148s : codeB Try.prog E cx n8_148 st = thenS (codeB Try.prog E cx n8_149 st) (codeB Try.prog E cx n8_153) := GE.seq_step (by kernel_rfl)
theorem n8_144s : codeB Try.prog E cx n8_144 st = thenS (codeB Try.prog E cx n8_145 st) (codeB Try.prog E cx n8_148) := GE.seq_step (by kernel_rfl)
theorem n8_142s : codeB Try.prog E cx n8_142 st = thenS (codeB Try.prog E cx n8_143 st) (codeB Try.prog E cx n8_144) := GE.seq_step (by kernel_rfl)
theorem n8_141k : LL.kp (⟨8, 188, b, ro⟩ : Cx).fn (4 * rid n8_142 + 3) = some ⟨[30, 158, 159, 6, 10, 11, 13, 15, 16, 27, 150, 151, 149, 157], [⟨157, 0, 1, true⟩, ⟨10, 0, 1, true⟩, ⟨11, 0, 1, true⟩, ⟨15, 0, 1, true⟩, ⟨16, 0, 1, true⟩, ⟨149, 0, 1, false⟩]⟩ := by kernel_rfl
theorem n8_141s : codeB Try.prog LL ⟨8, 188, b, ro⟩ n8_141 st = headS b ⟨[30, 158, 159, 6, 10, 11, 13, 15, 16, 27, 150, 151, 149, 157], [⟨157, 0, 1, true⟩, ⟨10, 0, 1, true⟩, ⟨11, 0, 1, true⟩, ⟨15, 0, 1, true⟩, ⟨16, 0, 1, true⟩, ⟨149, 0, 1, false⟩]⟩ st (lpB Try.prog LL ⟨8, 188, b, ro⟩ n8_141 n8_142) := GE.lpB_step (by kernel_rfl) (n8_141k b ro)
theorem n8_141g : LL.code ⟨8, 188, b, ro⟩ n8_141 st = headS b ⟨[30, 158, 159, 6, 10, 11, 13, 15, 16, 27, 150, 151, 149, 157], [⟨157, 0, 1, true⟩, ⟨10, 0, 1, true⟩, ⟨11, 0, 1, true⟩, ⟨15, 0, 1, true⟩, ⟨16, 0, 1, true⟩, ⟨149, 0, 1, false⟩]⟩ st (lpB Try.prog LL ⟨8, 188, b, ro⟩ n8_141 n8_142) := GE.lpB_again (by kernel_rfl) (n8_141k b ro)
theorem n8_140s : codeB Try.prog E cx n8_140 st = blockS 10 (codeB Try.prog E cx n8_141 st) st := GE.block_step (by kernel_rfl)
theorem n8_138s : codeB Try.prog E cx n8_138 st = thenS (codeB Try.prog E cx n8_139 st) (codeB Try.prog E cx n8_140) := GE.seq_step (by kernel_rfl)
theorem n8_154s : codeB Try.prog E ⟨f, 188, b, ro⟩ n8_154 st = plainS (runOps Try.prog E b q8_154 (ops [true, true, true, true, true, true, true, true, true, true, true, false, true, false, false, true, true, false, false, true, true, true] Try.f8) st) := GE.region_step (id := 47) (GE.reg_of (by kernel_rfl)) (by kernel_rfl)
theorem n8_137s : codeB Try.prog E cx n8_137 st = thenS (codeB Try.prog E cx n8_138 st) (codeB Try.prog E cx n8_154) := GE.seq_step (by kernel_rfl)
theorem n8_135s : codeB Try.prog E cx n8_135 st = thenS (codeB Try.prog E cx n8_136 st) (codeB Try.prog E cx n8_137) := GE.seq_step (by kernel_rfl)
theorem n8_133s : codeB Try.prog E cx n8_133 st = thenS (codeB Try.prog E cx n8_134 st) (codeB Try.prog E cx n8_135) := GE.seq_step (by kernel_rfl)
theorem n8_132s : codeB Try.prog E cx n8_132 st = blockS 9 (codeB Try.prog E cx n8_133 st) st := GE.block_step (by kernel_rfl)
theorem n8_155s : codeB Try.prog E ⟨f, 188, b, ro⟩ n8_155 st = plainS (runOps Try.prog E b q8_155 (ops [true, true, true, true, true, true, true, true, true, true, true, false, true, false, false, true, true, true] Try.f8) st) := GE.region_step (id := 48) (GE.reg_of (by kernel_rfl)) (by kernel_rfl)
theorem n8_131s : codeB Try.prog E cx n8_131 st = thenS (codeB Try.prog E cx n8_132 st) (codeB Try.prog E cx n8_155) := GE.seq_step (by kernel_rfl)
theorem n8_127s : codeB Try.prog E cx n8_127 st = thenS (codeB Try.prog E cx n8_128 st) (codeB Try.prog E cx n8_131) := GE.seq_step (by kernel_rfl)
theorem n8_125s : codeB Try.prog E cx n8_125 st = thenS (codeB Try.prog E cx n8_126 st) (codeB Try.prog E cx n8_127) := GE.seq_step (by kernel_rfl)
theorem n8_124k : LL.kp (⟨8, 188, b, ro⟩ : Cx).fn (4 * rid n8_125 + 3) = some ⟨[6, 10, 11, 13, 15, 16, 27, 150, 151, 149], [⟨10, 0, 1, true⟩, ⟨11, 0, 1, true⟩, ⟨15, 0, 1, true⟩, ⟨16, 0, 1, true⟩, ⟨149, 0, 1, false⟩]⟩ := by kernel_rfl
theorem n8_124s : codeB Try.prog LL ⟨8, 188, b, ro⟩ n8_124 st = headS b ⟨[6, 10, 11, 13, 15, 16, 27, 150, 151, 149], [⟨10, 0, 1, true⟩, ⟨11, 0, 1, true⟩, ⟨15, 0, 1, true⟩, ⟨16, 0, 1, true⟩, ⟨149, 0, 1, false⟩]⟩ st (lpB Try.prog LL ⟨8, 188, b, ro⟩ n8_124 n8_125) := GE.lpB_step (by kernel_rfl) (n8_124k b ro)
theorem n8_124g : LL.code ⟨8, 188, b, ro⟩ n8_124 st = headS b ⟨[6, 10, 11, 13, 15, 16, 27, 150, 151, 149], [⟨10, 0, 1, true⟩, ⟨11, 0, 1, true⟩, ⟨15, 0, 1, true⟩, ⟨16, 0, 1, true⟩, ⟨149, 0, 1, false⟩]⟩ st (lpB Try.prog LL ⟨8, 188, b, ro⟩ n8_124 n8_125) := GE.lpB_again (by kernel_rfl) (n8_124k b ro)
theorem n8_123s : codeB Try.prog E cx n8_123 st = blockS 8 (codeB Try.prog E cx n8_124 st) st := GE.block_step (by kernel_rfl)
theorem n8_121s : codeB Try.prog E cx n8_121 st = thenS (codeB Try.prog E cx n8_122 st) (codeB Try.prog E cx n8_123) := GE.seq_step (by kernel_rfl)
theorem q8_157g3 : gd q8_157 3 = some 174 := by kernel_rfl
theorem q8_157g8 : gd q8_157 8 = some 179 := by kernel_rfl
theorem q8_157g14 : gd q8_157 14 = some 185 := by kernel_rfl
theorem n8_157s : codeB Try.prog E ⟨f, 188, b, ro⟩ n8_157 st = plainS (runOps Try.prog E b q8_157 (ops [true, true, true, true, true, true, true, true, true, true, true, true, false] Try.f8) st) := GE.region_step (id := 49) (GE.reg_of (by kernel_rfl)) (by kernel_rfl)
theorem n8_158s : codeB Try.prog LL ⟨8, 188, b, ro⟩ n8_158 st = normS b ⟨[4], []⟩ .ret st := GE.ret_step (by kernel_rfl) (by kernel_rfl)
theorem n8_156s : codeB Try.prog E cx n8_156 st = thenS (codeB Try.prog E cx n8_157 st) (codeB Try.prog E cx n8_158) := GE.seq_step (by kernel_rfl)
theorem n8_120s : codeB Try.prog E cx n8_120 st = thenS (codeB Try.prog E cx n8_121 st) (codeB Try.prog E cx n8_156) := GE.seq_step (by kernel_rfl)
theorem n8_118s : codeB Try.prog E cx n8_118 st = thenS (codeB Try.prog E cx n8_119 st) (codeB Try.prog E cx n8_120) := GE.seq_step (by kernel_rfl)
theorem n8_24s : codeB Try.prog E cx n8_24 st = thenS (codeB Try.prog E cx n8_25 st) (codeB Try.prog E cx n8_118) := GE.seq_step (by kernel_rfl)
theorem n8_22s : codeB Try.prog E cx n8_22 st = thenS (codeB Try.prog E cx n8_23 st) (codeB Try.prog E cx n8_24) := GE.seq_step (by kernel_rfl)
theorem n8_14s : codeB Try.prog E cx n8_14 st = thenS (codeB Try.prog E cx n8_15 st) (codeB Try.prog E cx n8_22) := GE.seq_step (by kernel_rfl)
theorem n8_12s : codeB Try.prog E cx n8_12 st = thenS (codeB Try.prog E cx n8_13 st) (codeB Try.prog E cx n8_14) := GE.seq_step (by kernel_rfl)
theorem n8_10s : codeB Try.prog E cx n8_10 st = thenS (codeB Try.prog E cx n8_11 st) (codeB Try.prog E cx n8_12) := GE.seq_step (by kernel_rfl)
theorem n8_8s : codeB Try.prog E cx n8_8 st = thenS (codeB Try.prog E cx n8_9 st) (codeB Try.prog E cx n8_10) := GE.seq_step (by kernel_rfl)
theorem n8_6s : codeB Try.prog E cx n8_6 st = thenS (codeB Try.prog E cx n8_7 st) (codeB Try.prog E cx n8_8) := GE.seq_step (by kernel_rfl)
theorem n8_4s : codeB Try.prog E cx n8_4 st = thenS (codeB Try.prog E cx n8_5 st) (codeB Try.prog E cx n8_6) := GE.seq_step (by kernel_rfl)
theorem n8_2s : codeB Try.prog E cx n8_2 st = thenS (codeB Try.prog E cx n8_3 st) (codeB Try.prog E cx n8_4) := GE.seq_step (by kernel_rfl)
theorem n8_0s : codeB Try.prog E cx n8_0 st = thenS (codeB Try.prog E cx n8_1 st) (codeB Try.prog E cx n8_2) := GE.seq_step (by kernel_rfl)
noncomputable def n17_0 : Code := bodyOf Try.f17
noncomputable def n17_1 : Code := cl n17_0
noncomputable def q17_1 : List Oper := opsOf n17_1
noncomputable def n17_2 : Code := cr n17_0
noncomputable def n17_3 : Code := cl n17_2
noncomputable def n17_4 : Code := cl n17_3
noncomputable def q17_4 : List Oper := opsOf n17_4
noncomputable def n17_5 : Code := cr n17_3
noncomputable def n17_6 : Code := cl n17_5
noncomputable def q17_6 : List Oper := opsOf n17_6
noncomputable def n17_7 : Code := cr n17_5
noncomputable def n17_8 : Code := cl n17_7
noncomputable def n17_9 : Code := cl n17_8
noncomputable def q17_9 : List Oper := opsOf n17_9
noncomputable def n17_10 : Code := cr n17_8
noncomputable def n17_11 : Code := cr n17_7
noncomputable def n17_12 : Code := cr n17_2
noncomputable def n17_13 : Code := cl n17_12
noncomputable def q17_13 : List Oper := opsOf n17_13
noncomputable def n17_14 : Code := cr n17_12
noncomputable def n17_15 : Code := cl n17_14
noncomputable def n17_16 : Code := cl n17_15
noncomputable def q17_16 : List Oper := opsOf n17_16
noncomputable def n17_17 : Code := cr n17_15
noncomputable def n17_18 : Code := cl n17_17
noncomputable def n17_19 : Code := cl n17_18
noncomputable def n17_20 : Code := cl n17_19
noncomputable def q17_20 : List Oper := opsOf n17_20
noncomputable def n17_21 : Code := cr n17_19
noncomputable def n17_22 : Code := cl n17_21
noncomputable def n17_23 : Code := cl n17_22
noncomputable def n17_24 : Code := cr n17_22
noncomputable def n17_25 : Code := cr n17_21
noncomputable def n17_26 : Code := cl n17_25
noncomputable def n17_27 : Code := cl n17_26
noncomputable def n17_28 : Code := cl n17_27
noncomputable def q17_28 : List Oper := opsOf n17_28
noncomputable def n17_29 : Code := cr n17_27
noncomputable def q17_29 : List Oper := opsOf n17_29
noncomputable def n17_30 : Code := cr n17_25
noncomputable def q17_30 : List Oper := opsOf n17_30
noncomputable def n17_31 : Code := cr n17_14
noncomputable def n17_32 : Code := cl n17_31
noncomputable def q17_32 : List Oper := opsOf n17_32
noncomputable def n17_33 : Code := cr n17_31
theorem body17 : Try.f17.body = some n17_0 := by kernel_rfl
theorem run17 (E : Ev) (args : List Value) (h : List Blk) (hl : args.length ≤ 25) : runB Try.prog E 17 args h = endS Try.prog [.tmp 2, .tmp 3] h.length (codeB Try.prog E ⟨17, 25, h.length, none⟩ n17_0 ⟨enumT 0 args, h, []⟩) := GE.run_step Try.func17 body17 (by kernel_rfl) (by decide) (by kernel_rfl) hl
theorem n17_1s : codeB Try.prog E ⟨f, 25, b, ro⟩ n17_1 st = plainS (runOps Try.prog E b q17_1 (ops [false] Try.f17) st) := GE.region_step (id := 0) (GE.reg_of (by kernel_rfl)) (by kernel_rfl)
theorem n17_4s : codeB Try.prog E ⟨f, 25, b, ro⟩ n17_4 st = plainS (runOps Try.prog E b q17_4 (ops [true, false, false] Try.f17) st) := GE.region_step (id := 1) (GE.reg_of (by kernel_rfl)) (by kernel_rfl)
theorem n17_6s : codeB Try.prog E ⟨f, 25, b, ro⟩ n17_6 st = plainS (runOps Try.prog E b q17_6 (ops [true, false, true, false] Try.f17) st) := GE.region_step (id := 2) (GE.reg_of (by kernel_rfl)) (by kernel_rfl)
theorem n17_9s : codeB Try.prog E ⟨f, 25, b, ro⟩ n17_9 st = plainS (runOps Try.prog E b q17_9 (ops [true, false, true, true, false, false] Try.f17) st) := GE.region_step (id := 3) (GE.reg_of (by kernel_rfl)) (by kernel_rfl)
theorem n17_10s : codeB Try.prog LL ⟨17, 25, b, ro⟩ n17_10 st = normS b ⟨[2, 3], [⟨2, 0, 2, true⟩]⟩ .ret st := GE.ret_step (by kernel_rfl) (by kernel_rfl)
theorem n17_8s : codeB Try.prog E cx n17_8 st = thenS (codeB Try.prog E cx n17_9 st) (codeB Try.prog E cx n17_10) := GE.seq_step (by kernel_rfl)
theorem n17_11s : codeB Try.prog E cx n17_11 st = some (.normal, st) := GE.skip_step (by kernel_rfl)
theorem n17_7s : codeB Try.prog E cx n17_7 st = condS (codeB Try.prog E cx n17_8) (codeB Try.prog E cx n17_11) (lk st.σ 10) st := GE.cond_step (c := .tmp 10) (by kernel_rfl)
theorem n17_5s : codeB Try.prog E cx n17_5 st = thenS (codeB Try.prog E cx n17_6 st) (codeB Try.prog E cx n17_7) := GE.seq_step (by kernel_rfl)
theorem n17_3s : codeB Try.prog E cx n17_3 st = thenS (codeB Try.prog E cx n17_4 st) (codeB Try.prog E cx n17_5) := GE.seq_step (by kernel_rfl)
theorem n17_13s : codeB Try.prog E ⟨f, 25, b, ro⟩ n17_13 st = plainS (runOps Try.prog E b q17_13 (ops [true, true, false] Try.f17) st) := GE.region_step (id := 4) (GE.reg_of (by kernel_rfl)) (by kernel_rfl)
theorem n17_16s : codeB Try.prog E ⟨f, 25, b, ro⟩ n17_16 st = plainS (runOps Try.prog E b q17_16 (ops [true, true, true, false, false] Try.f17) st) := GE.region_step (id := 5) (GE.reg_of (by kernel_rfl)) (by kernel_rfl)
theorem n17_20s : codeB Try.prog E ⟨f, 25, b, ro⟩ n17_20 st = plainS (runOps Try.prog E b q17_20 (ops [true, true, true, false, true, false, false, false] Try.f17) st) := GE.region_step (id := 6) (GE.reg_of (by kernel_rfl)) (by kernel_rfl)
theorem n17_23s : codeB Try.prog E cx n17_23 st = some (.normal, st) := GE.skip_step (by kernel_rfl)
theorem n17_24s : codeB Try.prog LL ⟨17, 25, b, ro⟩ n17_24 st = normS b ⟨[5], [⟨5, 0, 2, true⟩]⟩ (.exit 0) st := GE.exit_step (by kernel_rfl) (by kernel_rfl)
theorem n17_22s : codeB Try.prog E cx n17_22 st = condS (codeB Try.prog E cx n17_23) (codeB Try.prog E cx n17_24) (lk st.σ 15) st := GE.cond_step (c := .tmp 15) (by kernel_rfl)
theorem n17_28s : codeB Try.prog E ⟨f, 25, b, ro⟩ n17_28 st = plainS (runOps Try.prog E b q17_28 (ops [true, true, true, false, true, false, false, true, true, false, false, false] Try.f17) st) := GE.region_step (id := 7) (GE.reg_of (by kernel_rfl)) (by kernel_rfl)
theorem n17_29s : codeB Try.prog E ⟨f, 25, b, ro⟩ n17_29 st = plainS (runOps Try.prog E b q17_29 (ops [true, true, true, false, true, false, false, true, true, false, false, true] Try.f17) st) := GE.region_step (id := 8) (GE.reg_of (by kernel_rfl)) (by kernel_rfl)
theorem n17_27s : codeB Try.prog E cx n17_27 st = thenS (codeB Try.prog E cx n17_28 st) (codeB Try.prog E cx n17_29) := GE.seq_step (by kernel_rfl)
theorem n17_26s : codeB Try.prog E cx n17_26 st = blockS 1 (codeB Try.prog E cx n17_27 st) st := GE.block_step (by kernel_rfl)
theorem n17_30s : codeB Try.prog E ⟨f, 25, b, ro⟩ n17_30 st = plainS (runOps Try.prog E b q17_30 (ops [true, true, true, false, true, false, false, true, true, true] Try.f17) st) := GE.region_step (id := 9) (GE.reg_of (by kernel_rfl)) (by kernel_rfl)
theorem n17_25s : codeB Try.prog E cx n17_25 st = thenS (codeB Try.prog E cx n17_26 st) (codeB Try.prog E cx n17_30) := GE.seq_step (by kernel_rfl)
theorem n17_21s : codeB Try.prog E cx n17_21 st = thenS (codeB Try.prog E cx n17_22 st) (codeB Try.prog E cx n17_25) := GE.seq_step (by kernel_rfl)
theorem n17_19s : codeB Try.prog E cx n17_19 st = thenS (codeB Try.prog E cx n17_20 st) (codeB Try.prog E cx n17_21) := GE.seq_step (by kernel_rfl)
theorem n17_18k : LL.kp (⟨17, 25, b, ro⟩ : Cx).fn (4 * rid n17_19 + 3) = some ⟨[0, 5, 13, 14], [⟨0, 0, 2, true⟩, ⟨5, 0, 2, true⟩]⟩ := by kernel_rfl
theorem n17_18s : codeB Try.prog LL ⟨17, 25, b, ro⟩ n17_18 st = headS b ⟨[0, 5, 13, 14], [⟨0, 0, 2, true⟩, ⟨5, 0, 2, true⟩]⟩ st (lpB Try.prog LL ⟨17, 25, b, ro⟩ n17_18 n17_19) := GE.lpB_step (by kernel_rfl) (n17_18k b ro)
theorem n17_18g : LL.code ⟨17, 25, b, ro⟩ n17_18 st = headS b ⟨[0, 5, 13, 14], [⟨0, 0, 2, true⟩, ⟨5, 0, 2, true⟩]⟩ st (lpB Try.prog LL ⟨17, 25, b, ro⟩ n17_18 n17_19) := GE.lpB_again (by kernel_rfl) (n17_18k b ro)
theorem n17_17s : codeB Try.prog E cx n17_17 st = blockS 0 (codeB Try.prog E cx n17_18 st) st := GE.block_step (by kernel_rfl)
theorem n17_15s : codeB Try.prog E cx n17_15 st = thenS (codeB Try.prog E cx n17_16 st) (codeB Try.prog E cx n17_17) := GE.seq_step (by kernel_rfl)
theorem n17_32s : codeB Try.prog E ⟨f, 25, b, ro⟩ n17_32 st = plainS (runOps Try.prog E b q17_32 (ops [true, true, true, true, false] Try.f17) st) := GE.region_step (id := 10) (GE.reg_of (by kernel_rfl)) (by kernel_rfl)
theorem n17_33s : codeB Try.prog LL ⟨17, 25, b, ro⟩ n17_33 st = normS b ⟨[2, 3], [⟨2, 0, 2, true⟩]⟩ .ret st := GE.ret_step (by kernel_rfl) (by kernel_rfl)
theorem n17_31s : codeB Try.prog E cx n17_31 st = thenS (codeB Try.prog E cx n17_32 st) (codeB Try.prog E cx n17_33) := GE.seq_step (by kernel_rfl)
theorem n17_14s : codeB Try.prog E cx n17_14 st = thenS (codeB Try.prog E cx n17_15 st) (codeB Try.prog E cx n17_31) := GE.seq_step (by kernel_rfl)
theorem n17_12s : codeB Try.prog E cx n17_12 st = thenS (codeB Try.prog E cx n17_13 st) (codeB Try.prog E cx n17_14) := GE.seq_step (by kernel_rfl)
theorem n17_2s : codeB Try.prog E cx n17_2 st = thenS (codeB Try.prog E cx n17_3 st) (codeB Try.prog E cx n17_12) := GE.seq_step (by kernel_rfl)
theorem n17_0s : codeB Try.prog E cx n17_0 st = thenS (codeB Try.prog E cx n17_1 st) (codeB Try.prog E cx n17_2) := GE.seq_step (by kernel_rfl)
noncomputable def n19_0 : Code := bodyOf Try.f19
noncomputable def n19_1 : Code := cl n19_0
noncomputable def q19_1 : List Oper := opsOf n19_1
noncomputable def n19_2 : Code := cr n19_0
noncomputable def n19_3 : Code := cl n19_2
noncomputable def q19_3 : List Oper := opsOf n19_3
noncomputable def n19_4 : Code := cr n19_2
noncomputable def n19_5 : Code := cl n19_4
noncomputable def n19_6 : Code := cl n19_5
noncomputable def n19_7 : Code := cl n19_6
noncomputable def q19_7 : List Oper := opsOf n19_7
noncomputable def n19_8 : Code := cr n19_6
noncomputable def n19_9 : Code := cl n19_8
noncomputable def n19_10 : Code := cl n19_9
noncomputable def q19_10 : List Oper := opsOf n19_10
noncomputable def n19_11 : Code := cr n19_9
noncomputable def n19_12 : Code := cr n19_8
noncomputable def n19_13 : Code := cl n19_12
noncomputable def q19_13 : List Oper := opsOf n19_13
noncomputable def n19_14 : Code := cr n19_12
noncomputable def n19_15 : Code := cl n19_14
noncomputable def n19_16 : Code := cl n19_15
noncomputable def q19_16 : List Oper := opsOf n19_16
noncomputable def n19_17 : Code := cr n19_15
noncomputable def n19_18 : Code := cr n19_14
noncomputable def n19_19 : Code := cr n19_4
noncomputable def n19_20 : Code := cl n19_19
noncomputable def n19_21 : Code := cl n19_20
noncomputable def q19_21 : List Oper := opsOf n19_21
noncomputable def n19_22 : Code := cr n19_20
noncomputable def n19_23 : Code := cl n19_22
noncomputable def n19_24 : Code := cl n19_23
noncomputable def n19_25 : Code := cl n19_24
noncomputable def q19_25 : List Oper := opsOf n19_25
noncomputable def n19_26 : Code := cr n19_24
noncomputable def n19_27 : Code := cl n19_26
noncomputable def n19_28 : Code := cl n19_27
noncomputable def n19_29 : Code := cr n19_27
noncomputable def n19_30 : Code := cr n19_26
noncomputable def n19_31 : Code := cl n19_30
noncomputable def n19_32 : Code := cl n19_31
noncomputable def n19_33 : Code := cl n19_32
noncomputable def q19_33 : List Oper := opsOf n19_33
noncomputable def n19_34 : Code := cr n19_32
noncomputable def n19_35 : Code := cl n19_34
noncomputable def n19_36 : Code := cl n19_35
noncomputable def q19_36 : List Oper := opsOf n19_36
noncomputable def n19_37 : Code := cr n19_35
noncomputable def n19_38 : Code := cl n19_37
noncomputable def q19_38 : List Oper := opsOf n19_38
noncomputable def n19_39 : Code := cr n19_37
noncomputable def n19_40 : Code := cr n19_34
noncomputable def n19_41 : Code := cl n19_40
noncomputable def q19_41 : List Oper := opsOf n19_41
noncomputable def n19_42 : Code := cr n19_40
noncomputable def n19_43 : Code := cl n19_42
noncomputable def q19_43 : List Oper := opsOf n19_43
noncomputable def n19_44 : Code := cr n19_42
noncomputable def n19_45 : Code := cr n19_30
noncomputable def q19_45 : List Oper := opsOf n19_45
noncomputable def n19_46 : Code := cr n19_19
noncomputable def n19_47 : Code := cl n19_46
noncomputable def q19_47 : List Oper := opsOf n19_47
noncomputable def n19_48 : Code := cr n19_46
theorem body19 : Try.f19.body = some n19_0 := by kernel_rfl
theorem run19 (E : Ev) (args : List Value) (h : List Blk) (hl : args.length ≤ 51) : runB Try.prog E 19 args h = endS Try.prog [.tmp 4, .tmp 5, .tmp 6] h.length (codeB Try.prog E ⟨19, 51, h.length, none⟩ n19_0 ⟨enumT 0 args, h, []⟩) := GE.run_step Try.func19 body19 (by kernel_rfl) (by decide) (by kernel_rfl) hl
theorem n19_1s : codeB Try.prog E ⟨f, 51, b, ro⟩ n19_1 st = plainS (runOps Try.prog E b q19_1 (ops [false] Try.f19) st) := GE.region_step (id := 0) (GE.reg_of (by kernel_rfl)) (by kernel_rfl)
theorem n19_3s : codeB Try.prog E ⟨f, 51, b, ro⟩ n19_3 st = plainS (runOps Try.prog E b q19_3 (ops [true, false] Try.f19) st) := GE.region_step (id := 1) (GE.reg_of (by kernel_rfl)) (by kernel_rfl)
theorem n19_7s : codeB Try.prog E ⟨f, 51, b, ro⟩ n19_7 st = plainS (runOps Try.prog E b q19_7 (ops [true, true, false, false, false] Try.f19) st) := GE.region_step (id := 2) (GE.reg_of (by kernel_rfl)) (by kernel_rfl)
theorem n19_10s : codeB Try.prog E ⟨f, 51, b, ro⟩ n19_10 st = plainS (runOps Try.prog E b q19_10 (ops [true, true, false, false, true, false, false] Try.f19) st) := GE.region_step (id := 3) (GE.reg_of (by kernel_rfl)) (by kernel_rfl)
theorem n19_11s : codeB Try.prog LL ⟨19, 51, b, ro⟩ n19_11 st = normS b ⟨[4, 5, 6], [⟨4, 0, 1, true⟩, ⟨5, 0, 1, true⟩]⟩ .ret st := GE.ret_step (by kernel_rfl) (by kernel_rfl)
theorem n19_9s : codeB Try.prog E cx n19_9 st = thenS (codeB Try.prog E cx n19_10 st) (codeB Try.prog E cx n19_11) := GE.seq_step (by kernel_rfl)
theorem n19_13s : codeB Try.prog E ⟨f, 51, b, ro⟩ n19_13 st = plainS (runOps Try.prog E b q19_13 (ops [true, true, false, false, true, true, false] Try.f19) st) := GE.region_step (id := 4) (GE.reg_of (by kernel_rfl)) (by kernel_rfl)
theorem n19_16s : codeB Try.prog E ⟨f, 51, b, ro⟩ n19_16 st = plainS (runOps Try.prog E b q19_16 (ops [true, true, false, false, true, true, true, false, false] Try.f19) st) := GE.region_step (id := 5) (GE.reg_of (by kernel_rfl)) (by kernel_rfl)
theorem n19_17s : codeB Try.prog LL ⟨19, 51, b, ro⟩ n19_17 st = normS b ⟨[4, 5, 6], [⟨4, 0, 1, true⟩, ⟨5, 0, 1, true⟩]⟩ .ret st := GE.ret_step (by kernel_rfl) (by kernel_rfl)
theorem n19_15s : codeB Try.prog E cx n19_15 st = thenS (codeB Try.prog E cx n19_16 st) (codeB Try.prog E cx n19_17) := GE.seq_step (by kernel_rfl)
theorem n19_18s : codeB Try.prog E cx n19_18 st = some (.normal, st) := GE.skip_step (by kernel_rfl)
theorem n19_14s : codeB Try.prog E cx n19_14 st = condS (codeB Try.prog E cx n19_15) (codeB Try.prog E cx n19_18) (lk st.σ 19) st := GE.cond_step (c := .tmp 19) (by kernel_rfl)
theorem n19_12s : codeB Try.prog E cx n19_12 st = thenS (codeB Try.prog E cx n19_13 st) (codeB Try.prog E cx n19_14) := GE.seq_step (by kernel_rfl)
theorem n19_8s : codeB Try.prog E cx n19_8 st = condS (codeB Try.prog E cx n19_9) (codeB Try.prog E cx n19_12) (lk st.σ 15) st := GE.cond_step (c := .tmp 15) (by kernel_rfl)
theorem n19_6s : codeB Try.prog E cx n19_6 st = thenS (codeB Try.prog E cx n19_7 st) (codeB Try.prog E cx n19_8) := GE.seq_step (by kernel_rfl)
theorem n19_5s : codeB Try.prog E cx n19_5 st = blockS 0 (codeB Try.prog E cx n19_6 st) st := GE.block_step (by kernel_rfl)
theorem n19_21s : codeB Try.prog E ⟨f, 51, b, ro⟩ n19_21 st = plainS (runOps Try.prog E b q19_21 (ops [true, true, true, false, false] Try.f19) st) := GE.region_step (id := 6) (GE.reg_of (by kernel_rfl)) (by kernel_rfl)
theorem n19_25s : codeB Try.prog E ⟨f, 51, b, ro⟩ n19_25 st = plainS (runOps Try.prog E b q19_25 (ops [true, true, true, false, true, false, false, false] Try.f19) st) := GE.region_step (id := 7) (GE.reg_of (by kernel_rfl)) (by kernel_rfl)
theorem n19_28s : codeB Try.prog E cx n19_28 st = some (.normal, st) := GE.skip_step (by kernel_rfl)
theorem n19_29s : codeB Try.prog LL ⟨19, 51, b, ro⟩ n19_29 st = normS b ⟨[4, 5], [⟨4, 0, 1, true⟩, ⟨5, 0, 1, true⟩]⟩ (.exit 1) st := GE.exit_step (by kernel_rfl) (by kernel_rfl)
theorem n19_27s : codeB Try.prog E cx n19_27 st = condS (codeB Try.prog E cx n19_28) (codeB Try.prog E cx n19_29) (lk st.σ 28) st := GE.cond_step (c := .tmp 28) (by kernel_rfl)
theorem n19_33s : codeB Try.prog E ⟨f, 51, b, ro⟩ n19_33 st = plainS (runOps Try.prog E b q19_33 (ops [true, true, true, false, true, false, false, true, true, false, false, false] Try.f19) st) := GE.region_step (id := 8) (GE.reg_of (by kernel_rfl)) (by kernel_rfl)
theorem n19_36s : codeB Try.prog E ⟨f, 51, b, ro⟩ n19_36 st = plainS (runOps Try.prog E b q19_36 (ops [true, true, true, false, true, false, false, true, true, false, false, true, false, false] Try.f19) st) := GE.region_step (id := 9) (GE.reg_of (by kernel_rfl)) (by kernel_rfl)
theorem n19_38s : codeB Try.prog E ⟨f, 51, b, ro⟩ n19_38 st = plainS (runOps Try.prog E b q19_38 (ops [true, true, true, false, true, false, false, true, true, false, false, true, false, true, false] Try.f19) st) := GE.region_step (id := 10) (GE.reg_of (by kernel_rfl)) (by kernel_rfl)
theorem n19_39s : codeB Try.prog E cx n19_39 st = some (.normal, st) := GE.skip_step (by kernel_rfl)
theorem n19_37s : codeB Try.prog E cx n19_37 st = condS (codeB Try.prog E cx n19_38) (codeB Try.prog E cx n19_39) (lk st.σ 35) st := GE.cond_step (c := .tmp 35) (by kernel_rfl)
theorem n19_35s : codeB Try.prog E cx n19_35 st = thenS (codeB Try.prog E cx n19_36 st) (codeB Try.prog E cx n19_37) := GE.seq_step (by kernel_rfl)
theorem n19_41s : codeB Try.prog E ⟨f, 51, b, ro⟩ n19_41 st = plainS (runOps Try.prog E b q19_41 (ops [true, true, true, false, true, false, false, true, true, false, false, true, true, false] Try.f19) st) := GE.region_step (id := 11) (GE.reg_of (by kernel_rfl)) (by kernel_rfl)
theorem n19_43s : codeB Try.prog E ⟨f, 51, b, ro⟩ n19_43 st = plainS (runOps Try.prog E b q19_43 (ops [true, true, true, false, true, false, false, true, true, false, false, true, true, true, false] Try.f19) st) := GE.region_step (id := 12) (GE.reg_of (by kernel_rfl)) (by kernel_rfl)
theorem n19_44s : codeB Try.prog E cx n19_44 st = some (.normal, st) := GE.skip_step (by kernel_rfl)
theorem n19_42s : codeB Try.prog E cx n19_42 st = condS (codeB Try.prog E cx n19_43) (codeB Try.prog E cx n19_44) (lk st.σ 43) st := GE.cond_step (c := .tmp 43) (by kernel_rfl)
theorem n19_40s : codeB Try.prog E cx n19_40 st = thenS (codeB Try.prog E cx n19_41 st) (codeB Try.prog E cx n19_42) := GE.seq_step (by kernel_rfl)
theorem n19_34s : codeB Try.prog E cx n19_34 st = thenS (codeB Try.prog E cx n19_35 st) (codeB Try.prog E cx n19_40) := GE.seq_step (by kernel_rfl)
theorem n19_32s : codeB Try.prog E cx n19_32 st = thenS (codeB Try.prog E cx n19_33 st) (codeB Try.prog E cx n19_34) := GE.seq_step (by kernel_rfl)
theorem n19_31s : codeB Try.prog E cx n19_31 st = blockS 2 (codeB Try.prog E cx n19_32 st) st := GE.block_step (by kernel_rfl)
theorem n19_45s : codeB Try.prog E ⟨f, 51, b, ro⟩ n19_45 st = plainS (runOps Try.prog E b q19_45 (ops [true, true, true, false, true, false, false, true, true, true] Try.f19) st) := GE.region_step (id := 13) (GE.reg_of (by kernel_rfl)) (by kernel_rfl)
theorem n19_30s : codeB Try.prog E cx n19_30 st = thenS (codeB Try.prog E cx n19_31 st) (codeB Try.prog E cx n19_45) := GE.seq_step (by kernel_rfl)
theorem n19_26s : codeB Try.prog E cx n19_26 st = thenS (codeB Try.prog E cx n19_27 st) (codeB Try.prog E cx n19_30) := GE.seq_step (by kernel_rfl)
theorem n19_24s : codeB Try.prog E cx n19_24 st = thenS (codeB Try.prog E cx n19_25 st) (codeB Try.prog E cx n19_26) := GE.seq_step (by kernel_rfl)
theorem n19_23k : LL.kp (⟨19, 51, b, ro⟩ : Cx).fn (4 * rid n19_24 + 3) = some ⟨[1, 4, 5, 25, 26, 27], [⟨4, 0, 1, true⟩, ⟨5, 0, 1, true⟩, ⟨25, 0, 2, true⟩]⟩ := by kernel_rfl
theorem n19_23s : codeB Try.prog LL ⟨19, 51, b, ro⟩ n19_23 st = headS b ⟨[1, 4, 5, 25, 26, 27], [⟨4, 0, 1, true⟩, ⟨5, 0, 1, true⟩, ⟨25, 0, 2, true⟩]⟩ st (lpB Try.prog LL ⟨19, 51, b, ro⟩ n19_23 n19_24) := GE.lpB_step (by kernel_rfl) (n19_23k b ro)
theorem n19_23g : LL.code ⟨19, 51, b, ro⟩ n19_23 st = headS b ⟨[1, 4, 5, 25, 26, 27], [⟨4, 0, 1, true⟩, ⟨5, 0, 1, true⟩, ⟨25, 0, 2, true⟩]⟩ st (lpB Try.prog LL ⟨19, 51, b, ro⟩ n19_23 n19_24) := GE.lpB_again (by kernel_rfl) (n19_23k b ro)
theorem n19_22s : codeB Try.prog E cx n19_22 st = blockS 1 (codeB Try.prog E cx n19_23 st) st := GE.block_step (by kernel_rfl)
theorem n19_20s : codeB Try.prog E cx n19_20 st = thenS (codeB Try.prog E cx n19_21 st) (codeB Try.prog E cx n19_22) := GE.seq_step (by kernel_rfl)
theorem n19_47s : codeB Try.prog E ⟨f, 51, b, ro⟩ n19_47 st = plainS (runOps Try.prog E b q19_47 (ops [true, true, true, true, false] Try.f19) st) := GE.region_step (id := 14) (GE.reg_of (by kernel_rfl)) (by kernel_rfl)
theorem n19_48s : codeB Try.prog LL ⟨19, 51, b, ro⟩ n19_48 st = normS b ⟨[4, 5, 6], [⟨4, 0, 1, true⟩, ⟨5, 0, 1, true⟩]⟩ .ret st := GE.ret_step (by kernel_rfl) (by kernel_rfl)
theorem n19_46s : codeB Try.prog E cx n19_46 st = thenS (codeB Try.prog E cx n19_47 st) (codeB Try.prog E cx n19_48) := GE.seq_step (by kernel_rfl)
theorem n19_19s : codeB Try.prog E cx n19_19 st = thenS (codeB Try.prog E cx n19_20 st) (codeB Try.prog E cx n19_46) := GE.seq_step (by kernel_rfl)
theorem n19_4s : codeB Try.prog E cx n19_4 st = thenS (codeB Try.prog E cx n19_5 st) (codeB Try.prog E cx n19_19) := GE.seq_step (by kernel_rfl)
theorem n19_2s : codeB Try.prog E cx n19_2 st = thenS (codeB Try.prog E cx n19_3 st) (codeB Try.prog E cx n19_4) := GE.seq_step (by kernel_rfl)
theorem n19_0s : codeB Try.prog E cx n19_0 st = thenS (codeB Try.prog E cx n19_1 st) (codeB Try.prog E cx n19_2) := GE.seq_step (by kernel_rfl)
noncomputable def n21_0 : Code := bodyOf Try.f21
noncomputable def n21_1 : Code := cl n21_0
noncomputable def q21_1 : List Oper := opsOf n21_1
noncomputable def n21_2 : Code := cr n21_0
noncomputable def n21_3 : Code := cl n21_2
noncomputable def n21_4 : Code := cl n21_3
noncomputable def q21_4 : List Oper := opsOf n21_4
noncomputable def n21_5 : Code := cr n21_3
noncomputable def n21_6 : Code := cl n21_5
noncomputable def n21_7 : Code := cl n21_6
noncomputable def q21_7 : List Oper := opsOf n21_7
noncomputable def n21_8 : Code := cr n21_6
noncomputable def n21_9 : Code := cr n21_5
noncomputable def n21_10 : Code := cr n21_2
noncomputable def n21_11 : Code := cl n21_10
noncomputable def n21_12 : Code := cl n21_11
noncomputable def q21_12 : List Oper := opsOf n21_12
noncomputable def n21_13 : Code := cr n21_11
noncomputable def n21_14 : Code := cl n21_13
noncomputable def n21_15 : Code := cl n21_14
noncomputable def n21_16 : Code := cl n21_15
noncomputable def n21_17 : Code := cl n21_16
noncomputable def q21_17 : List Oper := opsOf n21_17
noncomputable def n21_18 : Code := cr n21_16
noncomputable def n21_19 : Code := cl n21_18
noncomputable def n21_20 : Code := cr n21_18
noncomputable def n21_21 : Code := cr n21_15
noncomputable def n21_22 : Code := cl n21_21
noncomputable def n21_23 : Code := cl n21_22
noncomputable def n21_24 : Code := cl n21_23
noncomputable def q21_24 : List Oper := opsOf n21_24
noncomputable def n21_25 : Code := cr n21_23
noncomputable def n21_26 : Code := cl n21_25
noncomputable def n21_27 : Code := cl n21_26
noncomputable def q21_27 : List Oper := opsOf n21_27
noncomputable def n21_28 : Code := cr n21_26
noncomputable def n21_29 : Code := cr n21_25
noncomputable def n21_30 : Code := cr n21_21
noncomputable def q21_30 : List Oper := opsOf n21_30
noncomputable def n21_31 : Code := cr n21_10
noncomputable def n21_32 : Code := cl n21_31
noncomputable def q21_32 : List Oper := opsOf n21_32
noncomputable def n21_33 : Code := cr n21_31
theorem body21 : Try.f21.body = some n21_0 := by kernel_rfl
theorem run21 (E : Ev) (args : List Value) (h : List Blk) (hl : args.length ≤ 26) : runB Try.prog E 21 args h = endS Try.prog [.tmp 4] h.length (codeB Try.prog E ⟨21, 26, h.length, none⟩ n21_0 ⟨enumT 0 args, h, []⟩) := GE.run_step Try.func21 body21 (by kernel_rfl) (by decide) (by kernel_rfl) hl
theorem n21_1s : codeB Try.prog E ⟨f, 26, b, ro⟩ n21_1 st = plainS (runOps Try.prog E b q21_1 (ops [false] Try.f21) st) := GE.region_step (id := 0) (GE.reg_of (by kernel_rfl)) (by kernel_rfl)
theorem n21_4s : codeB Try.prog E ⟨f, 26, b, ro⟩ n21_4 st = plainS (runOps Try.prog E b q21_4 (ops [true, false, false] Try.f21) st) := GE.region_step (id := 1) (GE.reg_of (by kernel_rfl)) (by kernel_rfl)
theorem n21_7s : codeB Try.prog E ⟨f, 26, b, ro⟩ n21_7 st = plainS (runOps Try.prog E b q21_7 (ops [true, false, true, false, false] Try.f21) st) := GE.region_step (id := 2) (GE.reg_of (by kernel_rfl)) (by kernel_rfl)
theorem n21_8s : codeB Try.prog LL ⟨21, 26, b, ro⟩ n21_8 st = normS b ⟨[4], []⟩ .ret st := GE.ret_step (by kernel_rfl) (by kernel_rfl)
theorem n21_6s : codeB Try.prog E cx n21_6 st = thenS (codeB Try.prog E cx n21_7 st) (codeB Try.prog E cx n21_8) := GE.seq_step (by kernel_rfl)
theorem n21_9s : codeB Try.prog E cx n21_9 st = some (.normal, st) := GE.skip_step (by kernel_rfl)
theorem n21_5s : codeB Try.prog E cx n21_5 st = condS (codeB Try.prog E cx n21_6) (codeB Try.prog E cx n21_9) (lk st.σ 10) st := GE.cond_step (c := .tmp 10) (by kernel_rfl)
theorem n21_3s : codeB Try.prog E cx n21_3 st = thenS (codeB Try.prog E cx n21_4 st) (codeB Try.prog E cx n21_5) := GE.seq_step (by kernel_rfl)
theorem n21_12s : codeB Try.prog E ⟨f, 26, b, ro⟩ n21_12 st = plainS (runOps Try.prog E b q21_12 (ops [true, true, false, false] Try.f21) st) := GE.region_step (id := 3) (GE.reg_of (by kernel_rfl)) (by kernel_rfl)
theorem n21_17s : codeB Try.prog E ⟨f, 26, b, ro⟩ n21_17 st = plainS (runOps Try.prog E b q21_17 (ops [true, true, false, true, false, false, false, false] Try.f21) st) := GE.region_step (id := 4) (GE.reg_of (by kernel_rfl)) (by kernel_rfl)
theorem n21_19s : codeB Try.prog E cx n21_19 st = some (.normal, st) := GE.skip_step (by kernel_rfl)
theorem n21_20s : codeB Try.prog LL ⟨21, 26, b, ro⟩ n21_20 st = normS b ⟨[], []⟩ (.exit 0) st := GE.exit_step (by kernel_rfl) (by kernel_rfl)
theorem n21_18s : codeB Try.prog E cx n21_18 st = condS (codeB Try.prog E cx n21_19) (codeB Try.prog E cx n21_20) (lk st.σ 14) st := GE.cond_step (c := .tmp 14) (by kernel_rfl)
theorem n21_16s : codeB Try.prog E cx n21_16 st = thenS (codeB Try.prog E cx n21_17 st) (codeB Try.prog E cx n21_18) := GE.seq_step (by kernel_rfl)
theorem n21_24s : codeB Try.prog E ⟨f, 26, b, ro⟩ n21_24 st = drawS [0, 0, 3, 7, 0, 0, 48, 112, 255] (runOpsF Try.prog E b q21_24 (ops [true, true, false, true, false, false, true, false, false, false] Try.f21) st) := GE.draw_step (id := 6) (GE.reg_of (by kernel_rfl)) (by kernel_rfl) (by kernel_rfl) (by kernel_rfl)
theorem n21_27s : codeB Try.prog E ⟨f, 26, b, ro⟩ n21_27 st = plainS (runOps Try.prog E b q21_27 (ops [true, true, false, true, false, false, true, false, false, true, false, false] Try.f21) st) := GE.region_step (id := 7) (GE.reg_of (by kernel_rfl)) (by kernel_rfl)
theorem n21_28s : codeB Try.prog LL ⟨21, 26, b, ro⟩ n21_28 st = normS b ⟨[4], []⟩ .ret st := GE.ret_step (by kernel_rfl) (by kernel_rfl)
theorem n21_26s : codeB Try.prog E cx n21_26 st = thenS (codeB Try.prog E cx n21_27 st) (codeB Try.prog E cx n21_28) := GE.seq_step (by kernel_rfl)
theorem n21_29s : codeB Try.prog E cx n21_29 st = some (.normal, st) := GE.skip_step (by kernel_rfl)
theorem n21_25s : codeB Try.prog E cx n21_25 st = condS (codeB Try.prog E cx n21_26) (codeB Try.prog E cx n21_29) (lk st.σ 25) st := GE.cond_step (c := .tmp 25) (by kernel_rfl)
theorem n21_23s : codeB Try.prog E cx n21_23 st = thenS (codeB Try.prog E cx n21_24 st) (codeB Try.prog E cx n21_25) := GE.seq_step (by kernel_rfl)
theorem n21_22s : codeB Try.prog E cx n21_22 st = blockS 1 (codeB Try.prog E cx n21_23 st) st := GE.block_step (by kernel_rfl)
theorem n21_30s : codeB Try.prog E ⟨f, 26, b, ro⟩ n21_30 st = plainS (runOps Try.prog E b q21_30 (ops [true, true, false, true, false, false, true, true] Try.f21) st) := GE.region_step (id := 5) (GE.reg_of (by kernel_rfl)) (by kernel_rfl)
theorem n21_21s : codeB Try.prog E cx n21_21 st = thenS (codeB Try.prog E cx n21_22 st) (codeB Try.prog E cx n21_30) := GE.seq_step (by kernel_rfl)
theorem n21_15s : codeB Try.prog E cx n21_15 st = thenS (codeB Try.prog E cx n21_16 st) (codeB Try.prog E cx n21_21) := GE.seq_step (by kernel_rfl)
theorem n21_14k : LL.kp (⟨21, 26, b, ro⟩ : Cx).fn (4 * rid n21_15 + 3) = some ⟨[0, 1, 5], [⟨0, 0, 1, true⟩, ⟨1, 0, 1, true⟩]⟩ := by kernel_rfl
theorem n21_14s : codeB Try.prog LL ⟨21, 26, b, ro⟩ n21_14 st = headS b ⟨[0, 1, 5], [⟨0, 0, 1, true⟩, ⟨1, 0, 1, true⟩]⟩ st (lpB Try.prog LL ⟨21, 26, b, ro⟩ n21_14 n21_15) := GE.lpB_step (by kernel_rfl) (n21_14k b ro)
theorem n21_14g : LL.code ⟨21, 26, b, ro⟩ n21_14 st = headS b ⟨[0, 1, 5], [⟨0, 0, 1, true⟩, ⟨1, 0, 1, true⟩]⟩ st (lpB Try.prog LL ⟨21, 26, b, ro⟩ n21_14 n21_15) := GE.lpB_again (by kernel_rfl) (n21_14k b ro)
theorem n21_13s : codeB Try.prog E cx n21_13 st = blockS 0 (codeB Try.prog E cx n21_14 st) st := GE.block_step (by kernel_rfl)
theorem n21_11s : codeB Try.prog E cx n21_11 st = thenS (codeB Try.prog E cx n21_12 st) (codeB Try.prog E cx n21_13) := GE.seq_step (by kernel_rfl)
theorem n21_32s : codeB Try.prog E ⟨f, 26, b, ro⟩ n21_32 st = plainS (runOps Try.prog E b q21_32 (ops [true, true, true, false] Try.f21) st) := GE.region_step (id := 8) (GE.reg_of (by kernel_rfl)) (by kernel_rfl)
theorem n21_33s : codeB Try.prog LL ⟨21, 26, b, ro⟩ n21_33 st = normS b ⟨[4], []⟩ .ret st := GE.ret_step (by kernel_rfl) (by kernel_rfl)
theorem n21_31s : codeB Try.prog E cx n21_31 st = thenS (codeB Try.prog E cx n21_32 st) (codeB Try.prog E cx n21_33) := GE.seq_step (by kernel_rfl)
theorem n21_10s : codeB Try.prog E cx n21_10 st = thenS (codeB Try.prog E cx n21_11 st) (codeB Try.prog E cx n21_31) := GE.seq_step (by kernel_rfl)
theorem n21_2s : codeB Try.prog E cx n21_2 st = thenS (codeB Try.prog E cx n21_3 st) (codeB Try.prog E cx n21_10) := GE.seq_step (by kernel_rfl)
theorem n21_0s : codeB Try.prog E cx n21_0 st = thenS (codeB Try.prog E cx n21_1 st) (codeB Try.prog E cx n21_2) := GE.seq_step (by kernel_rfl)
noncomputable def n29_0 : Code := bodyOf Try.f29
noncomputable def n29_1 : Code := cl n29_0
noncomputable def q29_1 : List Oper := opsOf n29_1
noncomputable def n29_2 : Code := cr n29_0
noncomputable def n29_3 : Code := cl n29_2
noncomputable def q29_3 : List Oper := opsOf n29_3
noncomputable def n29_4 : Code := cr n29_2
noncomputable def n29_5 : Code := cl n29_4
noncomputable def n29_6 : Code := cl n29_5
noncomputable def n29_7 : Code := cl n29_6
noncomputable def q29_7 : List Oper := opsOf n29_7
noncomputable def n29_8 : Code := cr n29_6
noncomputable def n29_9 : Code := cl n29_8
noncomputable def n29_10 : Code := cl n29_9
noncomputable def q29_10 : List Oper := opsOf n29_10
noncomputable def n29_11 : Code := cr n29_9
noncomputable def n29_12 : Code := cr n29_8
noncomputable def n29_13 : Code := cl n29_12
noncomputable def q29_13 : List Oper := opsOf n29_13
noncomputable def n29_14 : Code := cr n29_12
noncomputable def n29_15 : Code := cl n29_14
noncomputable def n29_16 : Code := cl n29_15
noncomputable def q29_16 : List Oper := opsOf n29_16
noncomputable def n29_17 : Code := cr n29_15
noncomputable def n29_18 : Code := cr n29_14
noncomputable def n29_19 : Code := cr n29_4
noncomputable def n29_20 : Code := cl n29_19
noncomputable def q29_20 : List Oper := opsOf n29_20
noncomputable def n29_21 : Code := cr n29_19
theorem body29 : Try.f29.body = some n29_0 := by kernel_rfl
theorem run29 (E : Ev) (args : List Value) (h : List Blk) (hl : args.length ≤ 27) : runB Try.prog E 29 args h = endS Try.prog [.tmp 4, .tmp 5] h.length (codeB Try.prog E ⟨29, 27, h.length, none⟩ n29_0 ⟨enumT 0 args, h, []⟩) := GE.run_step Try.func29 body29 (by kernel_rfl) (by decide) (by kernel_rfl) hl
theorem n29_1s : codeB Try.prog E ⟨f, 27, b, ro⟩ n29_1 st = plainS (runOps Try.prog E b q29_1 (ops [false] Try.f29) st) := GE.region_step (id := 0) (GE.reg_of (by kernel_rfl)) (by kernel_rfl)
theorem n29_3s : codeB Try.prog E ⟨f, 27, b, ro⟩ n29_3 st = plainS (runOps Try.prog E b q29_3 (ops [true, false] Try.f29) st) := GE.region_step (id := 1) (GE.reg_of (by kernel_rfl)) (by kernel_rfl)
theorem n29_7s : codeB Try.prog E ⟨f, 27, b, ro⟩ n29_7 st = plainS (runOps Try.prog E b q29_7 (ops [true, true, false, false, false] Try.f29) st) := GE.region_step (id := 2) (GE.reg_of (by kernel_rfl)) (by kernel_rfl)
theorem n29_10s : codeB Try.prog E ⟨f, 27, b, ro⟩ n29_10 st = plainS (runOps Try.prog E b q29_10 (ops [true, true, false, false, true, false, false] Try.f29) st) := GE.region_step (id := 3) (GE.reg_of (by kernel_rfl)) (by kernel_rfl)
theorem n29_11s : codeB Try.prog LL ⟨29, 27, b, ro⟩ n29_11 st = normS b ⟨[4, 5], []⟩ .ret st := GE.ret_step (by kernel_rfl) (by kernel_rfl)
theorem n29_9s : codeB Try.prog E cx n29_9 st = thenS (codeB Try.prog E cx n29_10 st) (codeB Try.prog E cx n29_11) := GE.seq_step (by kernel_rfl)
theorem n29_13s : codeB Try.prog E ⟨f, 27, b, ro⟩ n29_13 st = plainS (runOps Try.prog E b q29_13 (ops [true, true, false, false, true, true, false] Try.f29) st) := GE.region_step (id := 4) (GE.reg_of (by kernel_rfl)) (by kernel_rfl)
theorem n29_16s : codeB Try.prog E ⟨f, 27, b, ro⟩ n29_16 st = plainS (runOps Try.prog E b q29_16 (ops [true, true, false, false, true, true, true, false, false] Try.f29) st) := GE.region_step (id := 5) (GE.reg_of (by kernel_rfl)) (by kernel_rfl)
theorem n29_17s : codeB Try.prog LL ⟨29, 27, b, ro⟩ n29_17 st = normS b ⟨[4, 5], []⟩ .ret st := GE.ret_step (by kernel_rfl) (by kernel_rfl)
theorem n29_15s : codeB Try.prog E cx n29_15 st = thenS (codeB Try.prog E cx n29_16 st) (codeB Try.prog E cx n29_17) := GE.seq_step (by kernel_rfl)
theorem n29_18s : codeB Try.prog E cx n29_18 st = some (.normal, st) := GE.skip_step (by kernel_rfl)
theorem n29_14s : codeB Try.prog E cx n29_14 st = condS (codeB Try.prog E cx n29_15) (codeB Try.prog E cx n29_18) (lk st.σ 17) st := GE.cond_step (c := .tmp 17) (by kernel_rfl)
theorem n29_12s : codeB Try.prog E cx n29_12 st = thenS (codeB Try.prog E cx n29_13 st) (codeB Try.prog E cx n29_14) := GE.seq_step (by kernel_rfl)
theorem n29_8s : codeB Try.prog E cx n29_8 st = condS (codeB Try.prog E cx n29_9) (codeB Try.prog E cx n29_12) (lk st.σ 13) st := GE.cond_step (c := .tmp 13) (by kernel_rfl)
theorem n29_6s : codeB Try.prog E cx n29_6 st = thenS (codeB Try.prog E cx n29_7 st) (codeB Try.prog E cx n29_8) := GE.seq_step (by kernel_rfl)
theorem n29_5s : codeB Try.prog E cx n29_5 st = blockS 0 (codeB Try.prog E cx n29_6 st) st := GE.block_step (by kernel_rfl)
theorem n29_20s : codeB Try.prog E ⟨f, 27, b, ro⟩ n29_20 st = plainS (runOps Try.prog E b q29_20 (ops [true, true, true, false] Try.f29) st) := GE.region_step (id := 6) (GE.reg_of (by kernel_rfl)) (by kernel_rfl)
theorem n29_21s : codeB Try.prog LL ⟨29, 27, b, ro⟩ n29_21 st = normS b ⟨[4, 5], []⟩ .ret st := GE.ret_step (by kernel_rfl) (by kernel_rfl)
theorem n29_19s : codeB Try.prog E cx n29_19 st = thenS (codeB Try.prog E cx n29_20 st) (codeB Try.prog E cx n29_21) := GE.seq_step (by kernel_rfl)
theorem n29_4s : codeB Try.prog E cx n29_4 st = thenS (codeB Try.prog E cx n29_5 st) (codeB Try.prog E cx n29_19) := GE.seq_step (by kernel_rfl)
theorem n29_2s : codeB Try.prog E cx n29_2 st = thenS (codeB Try.prog E cx n29_3 st) (codeB Try.prog E cx n29_4) := GE.seq_step (by kernel_rfl)
theorem n29_0s : codeB Try.prog E cx n29_0 st = thenS (codeB Try.prog E cx n29_1 st) (codeB Try.prog E cx n29_2) := GE.seq_step (by kernel_rfl)
noncomputable def n35_0 : Code := bodyOf Try.f35
noncomputable def n35_1 : Code := cl n35_0
noncomputable def q35_1 : List Oper := opsOf n35_1
noncomputable def n35_2 : Code := cr n35_0
noncomputable def n35_3 : Code := cl n35_2
noncomputable def q35_3 : List Oper := opsOf n35_3
noncomputable def n35_4 : Code := cr n35_2
noncomputable def n35_5 : Code := cl n35_4
noncomputable def n35_6 : Code := cl n35_5
noncomputable def q35_6 : List Oper := opsOf n35_6
noncomputable def n35_7 : Code := cr n35_5
noncomputable def n35_8 : Code := cl n35_7
noncomputable def n35_9 : Code := cl n35_8
noncomputable def n35_10 : Code := cl n35_9
noncomputable def n35_11 : Code := cl n35_10
noncomputable def q35_11 : List Oper := opsOf n35_11
noncomputable def n35_12 : Code := cr n35_10
noncomputable def n35_13 : Code := cl n35_12
noncomputable def n35_14 : Code := cr n35_12
noncomputable def n35_15 : Code := cr n35_9
noncomputable def n35_16 : Code := cl n35_15
noncomputable def n35_17 : Code := cl n35_16
noncomputable def n35_18 : Code := cl n35_17
noncomputable def q35_18 : List Oper := opsOf n35_18
noncomputable def n35_19 : Code := cr n35_17
noncomputable def q35_19 : List Oper := opsOf n35_19
noncomputable def n35_20 : Code := cr n35_15
noncomputable def q35_20 : List Oper := opsOf n35_20
noncomputable def n35_21 : Code := cr n35_4
noncomputable def n35_22 : Code := cl n35_21
noncomputable def n35_23 : Code := cl n35_22
noncomputable def q35_23 : List Oper := opsOf n35_23
noncomputable def n35_24 : Code := cr n35_22
noncomputable def n35_25 : Code := cl n35_24
noncomputable def q35_25 : List Oper := opsOf n35_25
noncomputable def n35_26 : Code := cr n35_24
noncomputable def n35_27 : Code := cr n35_21
noncomputable def n35_28 : Code := cl n35_27
noncomputable def q35_28 : List Oper := opsOf n35_28
noncomputable def n35_29 : Code := cr n35_27
theorem body35 : Try.f35.body = some n35_0 := by kernel_rfl
theorem run35 (E : Ev) (args : List Value) (h : List Blk) (hl : args.length ≤ 43) : runB Try.prog E 35 args h = endS Try.prog [.tmp 2] h.length (codeB Try.prog E ⟨35, 43, h.length, none⟩ n35_0 ⟨enumT 0 args, h, []⟩) := GE.run_step Try.func35 body35 (by kernel_rfl) (by decide) (by kernel_rfl) hl
theorem n35_1s : codeB Try.prog E ⟨f, 43, b, ro⟩ n35_1 st = plainS (runOps Try.prog E b q35_1 (ops [false] Try.f35) st) := GE.region_step (id := 0) (GE.reg_of (by kernel_rfl)) (by kernel_rfl)
theorem n35_3s : codeB Try.prog E ⟨f, 43, b, ro⟩ n35_3 st = plainS (runOps Try.prog E b q35_3 (ops [true, false] Try.f35) st) := GE.region_step (id := 1) (GE.reg_of (by kernel_rfl)) (by kernel_rfl)
theorem n35_6s : codeB Try.prog E ⟨f, 43, b, ro⟩ n35_6 st = plainS (runOps Try.prog E b q35_6 (ops [true, true, false, false] Try.f35) st) := GE.region_step (id := 2) (GE.reg_of (by kernel_rfl)) (by kernel_rfl)
theorem q35_11g4 : gd q35_11 4 = some 10 := by kernel_rfl
theorem n35_11s : codeB Try.prog E ⟨f, 43, b, ro⟩ n35_11 st = plainS (runOps Try.prog E b q35_11 (ops [true, true, false, true, false, false, false, false] Try.f35) st) := GE.region_step (id := 3) (GE.reg_of (by kernel_rfl)) (by kernel_rfl)
theorem n35_13s : codeB Try.prog E cx n35_13 st = some (.normal, st) := GE.skip_step (by kernel_rfl)
theorem n35_14s : codeB Try.prog LL ⟨35, 43, b, ro⟩ n35_14 st = normS b ⟨[3], [⟨3, 0, 2, true⟩]⟩ (.exit 0) st := GE.exit_step (by kernel_rfl) (by kernel_rfl)
theorem n35_12s : codeB Try.prog E cx n35_12 st = condS (codeB Try.prog E cx n35_13) (codeB Try.prog E cx n35_14) (lk st.σ 13) st := GE.cond_step (c := .tmp 13) (by kernel_rfl)
theorem n35_10s : codeB Try.prog E cx n35_10 st = thenS (codeB Try.prog E cx n35_11 st) (codeB Try.prog E cx n35_12) := GE.seq_step (by kernel_rfl)
theorem n35_18s : codeB Try.prog E ⟨f, 43, b, ro⟩ n35_18 st = plainS (runOps Try.prog E b q35_18 (ops [true, true, false, true, false, false, true, false, false, false] Try.f35) st) := GE.region_step (id := 5) (GE.reg_of (by kernel_rfl)) (by kernel_rfl)
theorem n35_19s : codeB Try.prog E ⟨f, 43, b, ro⟩ n35_19 st = plainS (runOps Try.prog E b q35_19 (ops [true, true, false, true, false, false, true, false, false, true] Try.f35) st) := GE.region_step (id := 6) (GE.reg_of (by kernel_rfl)) (by kernel_rfl)
theorem n35_17s : codeB Try.prog E cx n35_17 st = thenS (codeB Try.prog E cx n35_18 st) (codeB Try.prog E cx n35_19) := GE.seq_step (by kernel_rfl)
theorem n35_16s : codeB Try.prog E cx n35_16 st = blockS 1 (codeB Try.prog E cx n35_17 st) st := GE.block_step (by kernel_rfl)
theorem n35_20s : codeB Try.prog E ⟨f, 43, b, ro⟩ n35_20 st = plainS (runOps Try.prog E b q35_20 (ops [true, true, false, true, false, false, true, true] Try.f35) st) := GE.region_step (id := 4) (GE.reg_of (by kernel_rfl)) (by kernel_rfl)
theorem n35_15s : codeB Try.prog E cx n35_15 st = thenS (codeB Try.prog E cx n35_16 st) (codeB Try.prog E cx n35_20) := GE.seq_step (by kernel_rfl)
theorem n35_9s : codeB Try.prog E cx n35_9 st = thenS (codeB Try.prog E cx n35_10 st) (codeB Try.prog E cx n35_15) := GE.seq_step (by kernel_rfl)
theorem n35_8k : LL.kp (⟨35, 43, b, ro⟩ : Cx).fn (4 * rid n35_9 + 3) = some ⟨[0, 3, 4], [⟨0, 0, 2, true⟩, ⟨3, 0, 2, true⟩]⟩ := by kernel_rfl
theorem n35_8s : codeB Try.prog LL ⟨35, 43, b, ro⟩ n35_8 st = headS b ⟨[0, 3, 4], [⟨0, 0, 2, true⟩, ⟨3, 0, 2, true⟩]⟩ st (lpB Try.prog LL ⟨35, 43, b, ro⟩ n35_8 n35_9) := GE.lpB_step (by kernel_rfl) (n35_8k b ro)
theorem n35_8g : LL.code ⟨35, 43, b, ro⟩ n35_8 st = headS b ⟨[0, 3, 4], [⟨0, 0, 2, true⟩, ⟨3, 0, 2, true⟩]⟩ st (lpB Try.prog LL ⟨35, 43, b, ro⟩ n35_8 n35_9) := GE.lpB_again (by kernel_rfl) (n35_8k b ro)
theorem n35_7s : codeB Try.prog E cx n35_7 st = blockS 0 (codeB Try.prog E cx n35_8 st) st := GE.block_step (by kernel_rfl)
theorem n35_5s : codeB Try.prog E cx n35_5 st = thenS (codeB Try.prog E cx n35_6 st) (codeB Try.prog E cx n35_7) := GE.seq_step (by kernel_rfl)
theorem n35_23s : codeB Try.prog E ⟨f, 43, b, ro⟩ n35_23 st = plainS (runOps Try.prog E b q35_23 (ops [true, true, true, false, false] Try.f35) st) := GE.region_step (id := 7) (GE.reg_of (by kernel_rfl)) (by kernel_rfl)
theorem n35_25s : codeB Try.prog E ⟨f, 43, b, ro⟩ n35_25 st = plainS (runOps Try.prog E b q35_25 (ops [true, true, true, false, true, false] Try.f35) st) := GE.region_step (id := 8) (GE.reg_of (by kernel_rfl)) (by kernel_rfl)
theorem n35_26s : codeB Try.prog E cx n35_26 st = some (.normal, st) := GE.skip_step (by kernel_rfl)
theorem n35_24s : codeB Try.prog E cx n35_24 st = condS (codeB Try.prog E cx n35_25) (codeB Try.prog E cx n35_26) (lk st.σ 39) st := GE.cond_step (c := .tmp 39) (by kernel_rfl)
theorem n35_22s : codeB Try.prog E cx n35_22 st = thenS (codeB Try.prog E cx n35_23 st) (codeB Try.prog E cx n35_24) := GE.seq_step (by kernel_rfl)
theorem n35_28s : codeB Try.prog E ⟨f, 43, b, ro⟩ n35_28 st = plainS (runOps Try.prog E b q35_28 (ops [true, true, true, true, false] Try.f35) st) := GE.region_step (id := 9) (GE.reg_of (by kernel_rfl)) (by kernel_rfl)
theorem n35_29s : codeB Try.prog LL ⟨35, 43, b, ro⟩ n35_29 st = normS b ⟨[2], [⟨2, 0, 2, true⟩]⟩ .ret st := GE.ret_step (by kernel_rfl) (by kernel_rfl)
theorem n35_27s : codeB Try.prog E cx n35_27 st = thenS (codeB Try.prog E cx n35_28 st) (codeB Try.prog E cx n35_29) := GE.seq_step (by kernel_rfl)
theorem n35_21s : codeB Try.prog E cx n35_21 st = thenS (codeB Try.prog E cx n35_22 st) (codeB Try.prog E cx n35_27) := GE.seq_step (by kernel_rfl)
theorem n35_4s : codeB Try.prog E cx n35_4 st = thenS (codeB Try.prog E cx n35_5 st) (codeB Try.prog E cx n35_21) := GE.seq_step (by kernel_rfl)
theorem n35_2s : codeB Try.prog E cx n35_2 st = thenS (codeB Try.prog E cx n35_3 st) (codeB Try.prog E cx n35_4) := GE.seq_step (by kernel_rfl)
theorem n35_0s : codeB Try.prog E cx n35_0 st = thenS (codeB Try.prog E cx n35_1 st) (codeB Try.prog E cx n35_2) := GE.seq_step (by kernel_rfl)
noncomputable def n36_0 : Code := bodyOf Try.f36
noncomputable def n36_1 : Code := cl n36_0
noncomputable def q36_1 : List Oper := opsOf n36_1
noncomputable def n36_2 : Code := cr n36_0
noncomputable def n36_3 : Code := cl n36_2
noncomputable def n36_4 : Code := cl n36_3
noncomputable def q36_4 : List Oper := opsOf n36_4
noncomputable def n36_5 : Code := cr n36_3
noncomputable def n36_6 : Code := cl n36_5
noncomputable def n36_7 : Code := cl n36_6
noncomputable def n36_8 : Code := cl n36_7
noncomputable def q36_8 : List Oper := opsOf n36_8
noncomputable def n36_9 : Code := cr n36_7
noncomputable def n36_10 : Code := cl n36_9
noncomputable def n36_11 : Code := cl n36_10
noncomputable def q36_11 : List Oper := opsOf n36_11
noncomputable def n36_12 : Code := cr n36_10
noncomputable def n36_13 : Code := cr n36_9
noncomputable def n36_14 : Code := cr n36_6
noncomputable def n36_15 : Code := cl n36_14
noncomputable def q36_15 : List Oper := opsOf n36_15
noncomputable def n36_16 : Code := cr n36_14
noncomputable def n36_17 : Code := cr n36_5
noncomputable def n36_18 : Code := cr n36_2
noncomputable def n36_19 : Code := cl n36_18
noncomputable def q36_19 : List Oper := opsOf n36_19
noncomputable def n36_20 : Code := cr n36_18
noncomputable def n36_21 : Code := cl n36_20
noncomputable def n36_22 : Code := cl n36_21
noncomputable def q36_22 : List Oper := opsOf n36_22
noncomputable def n36_23 : Code := cr n36_21
noncomputable def n36_24 : Code := cl n36_23
noncomputable def n36_25 : Code := cl n36_24
noncomputable def n36_26 : Code := cl n36_25
noncomputable def q36_26 : List Oper := opsOf n36_26
noncomputable def n36_27 : Code := cr n36_25
noncomputable def n36_28 : Code := cl n36_27
noncomputable def n36_29 : Code := cl n36_28
noncomputable def n36_30 : Code := cr n36_28
noncomputable def n36_31 : Code := cr n36_27
noncomputable def n36_32 : Code := cl n36_31
noncomputable def n36_33 : Code := cl n36_32
noncomputable def n36_34 : Code := cl n36_33
noncomputable def q36_34 : List Oper := opsOf n36_34
noncomputable def n36_35 : Code := cr n36_33
noncomputable def n36_36 : Code := cl n36_35
noncomputable def q36_36 : List Oper := opsOf n36_36
noncomputable def n36_37 : Code := cr n36_35
noncomputable def n36_38 : Code := cl n36_37
noncomputable def n36_39 : Code := cl n36_38
noncomputable def q36_39 : List Oper := opsOf n36_39
noncomputable def n36_40 : Code := cr n36_38
noncomputable def n36_41 : Code := cl n36_40
noncomputable def n36_42 : Code := cl n36_41
noncomputable def n36_43 : Code := cl n36_42
noncomputable def q36_43 : List Oper := opsOf n36_43
noncomputable def n36_44 : Code := cr n36_42
noncomputable def n36_45 : Code := cl n36_44
noncomputable def n36_46 : Code := cl n36_45
noncomputable def n36_47 : Code := cr n36_45
noncomputable def n36_48 : Code := cr n36_44
noncomputable def n36_49 : Code := cl n36_48
noncomputable def n36_50 : Code := cl n36_49
noncomputable def n36_51 : Code := cl n36_50
noncomputable def q36_51 : List Oper := opsOf n36_51
noncomputable def n36_52 : Code := cr n36_50
noncomputable def q36_52 : List Oper := opsOf n36_52
noncomputable def n36_53 : Code := cr n36_48
noncomputable def q36_53 : List Oper := opsOf n36_53
noncomputable def n36_54 : Code := cr n36_37
noncomputable def n36_55 : Code := cl n36_54
noncomputable def q36_55 : List Oper := opsOf n36_55
noncomputable def n36_56 : Code := cr n36_54
noncomputable def n36_57 : Code := cl n36_56
noncomputable def q36_57 : List Oper := opsOf n36_57
noncomputable def n36_58 : Code := cr n36_56
noncomputable def n36_59 : Code := cr n36_31
noncomputable def q36_59 : List Oper := opsOf n36_59
noncomputable def n36_60 : Code := cr n36_20
noncomputable def n36_61 : Code := cl n36_60
noncomputable def q36_61 : List Oper := opsOf n36_61
noncomputable def n36_62 : Code := cr n36_60
theorem body36 : Try.f36.body = some n36_0 := by kernel_rfl
theorem run36 (E : Ev) (args : List Value) (h : List Blk) (hl : args.length ≤ 52) : runB Try.prog E 36 args h = endS Try.prog [.tmp 4] h.length (codeB Try.prog E ⟨36, 52, h.length, none⟩ n36_0 ⟨enumT 0 args, h, []⟩) := GE.run_step Try.func36 body36 (by kernel_rfl) (by decide) (by kernel_rfl) hl
theorem n36_1s : codeB Try.prog E ⟨f, 52, b, ro⟩ n36_1 st = plainS (runOps Try.prog E b q36_1 (ops [false] Try.f36) st) := GE.region_step (id := 0) (GE.reg_of (by kernel_rfl)) (by kernel_rfl)
theorem n36_4s : codeB Try.prog E ⟨f, 52, b, ro⟩ n36_4 st = plainS (runOps Try.prog E b q36_4 (ops [true, false, false] Try.f36) st) := GE.region_step (id := 1) (GE.reg_of (by kernel_rfl)) (by kernel_rfl)
theorem n36_8s : codeB Try.prog E ⟨f, 52, b, ro⟩ n36_8 st = plainS (runOps Try.prog E b q36_8 (ops [true, false, true, false, false, false] Try.f36) st) := GE.region_step (id := 2) (GE.reg_of (by kernel_rfl)) (by kernel_rfl)
theorem n36_11s : codeB Try.prog E ⟨f, 52, b, ro⟩ n36_11 st = plainS (runOps Try.prog E b q36_11 (ops [true, false, true, false, false, true, false, false] Try.f36) st) := GE.region_step (id := 3) (GE.reg_of (by kernel_rfl)) (by kernel_rfl)
theorem n36_12s : codeB Try.prog LL ⟨36, 52, b, ro⟩ n36_12 st = normS b ⟨[4], [⟨4, 0, 1, false⟩]⟩ .ret st := GE.ret_step (by kernel_rfl) (by kernel_rfl)
theorem n36_10s : codeB Try.prog E cx n36_10 st = thenS (codeB Try.prog E cx n36_11 st) (codeB Try.prog E cx n36_12) := GE.seq_step (by kernel_rfl)
theorem n36_13s : codeB Try.prog E cx n36_13 st = some (.normal, st) := GE.skip_step (by kernel_rfl)
theorem n36_9s : codeB Try.prog E cx n36_9 st = condS (codeB Try.prog E cx n36_10) (codeB Try.prog E cx n36_13) (lk st.σ 17) st := GE.cond_step (c := .tmp 17) (by kernel_rfl)
theorem n36_7s : codeB Try.prog E cx n36_7 st = thenS (codeB Try.prog E cx n36_8 st) (codeB Try.prog E cx n36_9) := GE.seq_step (by kernel_rfl)
theorem n36_15s : codeB Try.prog E ⟨f, 52, b, ro⟩ n36_15 st = plainS (runOps Try.prog E b q36_15 (ops [true, false, true, false, true, false] Try.f36) st) := GE.region_step (id := 4) (GE.reg_of (by kernel_rfl)) (by kernel_rfl)
theorem n36_16s : codeB Try.prog LL ⟨36, 52, b, ro⟩ n36_16 st = normS b ⟨[4], [⟨4, 0, 1, false⟩]⟩ .ret st := GE.ret_step (by kernel_rfl) (by kernel_rfl)
theorem n36_14s : codeB Try.prog E cx n36_14 st = thenS (codeB Try.prog E cx n36_15 st) (codeB Try.prog E cx n36_16) := GE.seq_step (by kernel_rfl)
theorem n36_6s : codeB Try.prog E cx n36_6 st = thenS (codeB Try.prog E cx n36_7 st) (codeB Try.prog E cx n36_14) := GE.seq_step (by kernel_rfl)
theorem n36_17s : codeB Try.prog E cx n36_17 st = some (.normal, st) := GE.skip_step (by kernel_rfl)
theorem n36_5s : codeB Try.prog E cx n36_5 st = condS (codeB Try.prog E cx n36_6) (codeB Try.prog E cx n36_17) (lk st.σ 14) st := GE.cond_step (c := .tmp 14) (by kernel_rfl)
theorem n36_3s : codeB Try.prog E cx n36_3 st = thenS (codeB Try.prog E cx n36_4 st) (codeB Try.prog E cx n36_5) := GE.seq_step (by kernel_rfl)
theorem n36_19s : codeB Try.prog E ⟨f, 52, b, ro⟩ n36_19 st = plainS (runOps Try.prog E b q36_19 (ops [true, true, false] Try.f36) st) := GE.region_step (id := 5) (GE.reg_of (by kernel_rfl)) (by kernel_rfl)
theorem n36_22s : codeB Try.prog E ⟨f, 52, b, ro⟩ n36_22 st = plainS (runOps Try.prog E b q36_22 (ops [true, true, true, false, false] Try.f36) st) := GE.region_step (id := 6) (GE.reg_of (by kernel_rfl)) (by kernel_rfl)
theorem n36_26s : codeB Try.prog E ⟨f, 52, b, ro⟩ n36_26 st = plainS (runOps Try.prog E b q36_26 (ops [true, true, true, false, true, false, false, false] Try.f36) st) := GE.region_step (id := 7) (GE.reg_of (by kernel_rfl)) (by kernel_rfl)
theorem n36_29s : codeB Try.prog E cx n36_29 st = some (.normal, st) := GE.skip_step (by kernel_rfl)
theorem n36_30s : codeB Try.prog LL ⟨36, 52, b, ro⟩ n36_30 st = normS b ⟨[5], [⟨5, 0, 1, false⟩]⟩ (.exit 0) st := GE.exit_step (by kernel_rfl) (by kernel_rfl)
theorem n36_28s : codeB Try.prog E cx n36_28 st = condS (codeB Try.prog E cx n36_29) (codeB Try.prog E cx n36_30) (lk st.σ 23) st := GE.cond_step (c := .tmp 23) (by kernel_rfl)
theorem n36_34s : codeB Try.prog E ⟨f, 52, b, ro⟩ n36_34 st = plainS (runOps Try.prog E b q36_34 (ops [true, true, true, false, true, false, false, true, true, false, false, false] Try.f36) st) := GE.region_step (id := 8) (GE.reg_of (by kernel_rfl)) (by kernel_rfl)
theorem n36_36s : codeB Try.prog E ⟨f, 52, b, ro⟩ n36_36 st = plainS (runOps Try.prog E b q36_36 (ops [true, true, true, false, true, false, false, true, true, false, false, true, false] Try.f36) st) := GE.region_step (id := 9) (GE.reg_of (by kernel_rfl)) (by kernel_rfl)
theorem n36_39s : codeB Try.prog E ⟨f, 52, b, ro⟩ n36_39 st = plainS (runOps Try.prog E b q36_39 (ops [true, true, true, false, true, false, false, true, true, false, false, true, true, false, false] Try.f36) st) := GE.region_step (id := 10) (GE.reg_of (by kernel_rfl)) (by kernel_rfl)
theorem n36_43s : codeB Try.prog E ⟨f, 52, b, ro⟩ n36_43 st = plainS (runOps Try.prog E b q36_43 (ops [true, true, true, false, true, false, false, true, true, false, false, true, true, false, true, false, false, false] Try.f36) st) := GE.region_step (id := 11) (GE.reg_of (by kernel_rfl)) (by kernel_rfl)
theorem n36_46s : codeB Try.prog E cx n36_46 st = some (.normal, st) := GE.skip_step (by kernel_rfl)
theorem n36_47s : codeB Try.prog LL ⟨36, 52, b, ro⟩ n36_47 st = normS b ⟨[6, 7, 0, 1, 5, 21, 22], [⟨0, 0, 2, true⟩, ⟨1, 0, 1, true⟩, ⟨5, 0, 1, false⟩]⟩ (.exit 2) st := GE.exit_step (by kernel_rfl) (by kernel_rfl)
theorem n36_45s : codeB Try.prog E cx n36_45 st = condS (codeB Try.prog E cx n36_46) (codeB Try.prog E cx n36_47) (lk st.σ 28) st := GE.cond_step (c := .tmp 28) (by kernel_rfl)
theorem n36_51s : codeB Try.prog E ⟨f, 52, b, ro⟩ n36_51 st = plainS (runOps Try.prog E b q36_51 (ops [true, true, true, false, true, false, false, true, true, false, false, true, true, false, true, false, false, true, true, false, false, false] Try.f36) st) := GE.region_step (id := 12) (GE.reg_of (by kernel_rfl)) (by kernel_rfl)
theorem q36_52g1 : gd q36_52 1 = some 32 := by kernel_rfl
theorem n36_52s : codeB Try.prog E ⟨f, 52, b, ro⟩ n36_52 st = plainS (runOps Try.prog E b q36_52 (ops [true, true, true, false, true, false, false, true, true, false, false, true, true, false, true, false, false, true, true, false, false, true] Try.f36) st) := GE.region_step (id := 13) (GE.reg_of (by kernel_rfl)) (by kernel_rfl)
theorem n36_50s : codeB Try.prog E cx n36_50 st = thenS (codeB Try.prog E cx n36_51 st) (codeB Try.prog E cx n36_52) := GE.seq_step (by kernel_rfl)
theorem n36_49s : codeB Try.prog E cx n36_49 st = blockS 3 (codeB Try.prog E cx n36_50 st) st := GE.block_step (by kernel_rfl)
theorem n36_53s : codeB Try.prog E ⟨f, 52, b, ro⟩ n36_53 st = plainS (runOps Try.prog E b q36_53 (ops [true, true, true, false, true, false, false, true, true, false, false, true, true, false, true, false, false, true, true, true] Try.f36) st) := GE.region_step (id := 14) (GE.reg_of (by kernel_rfl)) (by kernel_rfl)
theorem n36_48s : codeB Try.prog E cx n36_48 st = thenS (codeB Try.prog E cx n36_49 st) (codeB Try.prog E cx n36_53) := GE.seq_step (by kernel_rfl)
theorem n36_44s : codeB Try.prog E cx n36_44 st = thenS (codeB Try.prog E cx n36_45 st) (codeB Try.prog E cx n36_48) := GE.seq_step (by kernel_rfl)
theorem n36_42s : codeB Try.prog E cx n36_42 st = thenS (codeB Try.prog E cx n36_43 st) (codeB Try.prog E cx n36_44) := GE.seq_step (by kernel_rfl)
theorem n36_41k : LL.kp (⟨36, 52, b, ro⟩ : Cx).fn (4 * rid n36_42 + 3) = some ⟨[6, 7, 25, 26, 27, 0, 1, 5, 21, 22], [⟨25, 0, 1, true⟩, ⟨0, 0, 2, true⟩, ⟨1, 0, 1, true⟩, ⟨5, 0, 1, false⟩]⟩ := by kernel_rfl
theorem n36_41s : codeB Try.prog LL ⟨36, 52, b, ro⟩ n36_41 st = headS b ⟨[6, 7, 25, 26, 27, 0, 1, 5, 21, 22], [⟨25, 0, 1, true⟩, ⟨0, 0, 2, true⟩, ⟨1, 0, 1, true⟩, ⟨5, 0, 1, false⟩]⟩ st (lpB Try.prog LL ⟨36, 52, b, ro⟩ n36_41 n36_42) := GE.lpB_step (by kernel_rfl) (n36_41k b ro)
theorem n36_41g : LL.code ⟨36, 52, b, ro⟩ n36_41 st = headS b ⟨[6, 7, 25, 26, 27, 0, 1, 5, 21, 22], [⟨25, 0, 1, true⟩, ⟨0, 0, 2, true⟩, ⟨1, 0, 1, true⟩, ⟨5, 0, 1, false⟩]⟩ st (lpB Try.prog LL ⟨36, 52, b, ro⟩ n36_41 n36_42) := GE.lpB_again (by kernel_rfl) (n36_41k b ro)
theorem n36_40s : codeB Try.prog E cx n36_40 st = blockS 2 (codeB Try.prog E cx n36_41 st) st := GE.block_step (by kernel_rfl)
theorem n36_38s : codeB Try.prog E cx n36_38 st = thenS (codeB Try.prog E cx n36_39 st) (codeB Try.prog E cx n36_40) := GE.seq_step (by kernel_rfl)
theorem n36_55s : codeB Try.prog E ⟨f, 52, b, ro⟩ n36_55 st = plainS (runOps Try.prog E b q36_55 (ops [true, true, true, false, true, false, false, true, true, false, false, true, true, true, false] Try.f36) st) := GE.region_step (id := 15) (GE.reg_of (by kernel_rfl)) (by kernel_rfl)
theorem n36_57s : codeB Try.prog E ⟨f, 52, b, ro⟩ n36_57 st = plainS (runOps Try.prog E b q36_57 (ops [true, true, true, false, true, false, false, true, true, false, false, true, true, true, true, false] Try.f36) st) := GE.region_step (id := 16) (GE.reg_of (by kernel_rfl)) (by kernel_rfl)
theorem n36_58s : codeB Try.prog E cx n36_58 st = some (.normal, st) := GE.skip_step (by kernel_rfl)
theorem n36_56s : codeB Try.prog E cx n36_56 st = condS (codeB Try.prog E cx n36_57) (codeB Try.prog E cx n36_58) (lk st.σ 39) st := GE.cond_step (c := .tmp 39) (by kernel_rfl)
theorem n36_54s : codeB Try.prog E cx n36_54 st = thenS (codeB Try.prog E cx n36_55 st) (codeB Try.prog E cx n36_56) := GE.seq_step (by kernel_rfl)
theorem n36_37s : codeB Try.prog E cx n36_37 st = thenS (codeB Try.prog E cx n36_38 st) (codeB Try.prog E cx n36_54) := GE.seq_step (by kernel_rfl)
theorem n36_35s : codeB Try.prog E cx n36_35 st = thenS (codeB Try.prog E cx n36_36 st) (codeB Try.prog E cx n36_37) := GE.seq_step (by kernel_rfl)
theorem n36_33s : codeB Try.prog E cx n36_33 st = thenS (codeB Try.prog E cx n36_34 st) (codeB Try.prog E cx n36_35) := GE.seq_step (by kernel_rfl)
theorem n36_32s : codeB Try.prog E cx n36_32 st = blockS 1 (codeB Try.prog E cx n36_33 st) st := GE.block_step (by kernel_rfl)
theorem n36_59s : codeB Try.prog E ⟨f, 52, b, ro⟩ n36_59 st = plainS (runOps Try.prog E b q36_59 (ops [true, true, true, false, true, false, false, true, true, true] Try.f36) st) := GE.region_step (id := 17) (GE.reg_of (by kernel_rfl)) (by kernel_rfl)
theorem n36_31s : codeB Try.prog E cx n36_31 st = thenS (codeB Try.prog E cx n36_32 st) (codeB Try.prog E cx n36_59) := GE.seq_step (by kernel_rfl)
theorem n36_27s : codeB Try.prog E cx n36_27 st = thenS (codeB Try.prog E cx n36_28 st) (codeB Try.prog E cx n36_31) := GE.seq_step (by kernel_rfl)
theorem n36_25s : codeB Try.prog E cx n36_25 st = thenS (codeB Try.prog E cx n36_26 st) (codeB Try.prog E cx n36_27) := GE.seq_step (by kernel_rfl)
theorem n36_24k : LL.kp (⟨36, 52, b, ro⟩ : Cx).fn (4 * rid n36_25 + 3) = some ⟨[0, 1, 5, 21, 22], [⟨0, 0, 2, true⟩, ⟨1, 0, 1, true⟩, ⟨5, 0, 1, false⟩]⟩ := by kernel_rfl
theorem n36_24s : codeB Try.prog LL ⟨36, 52, b, ro⟩ n36_24 st = headS b ⟨[0, 1, 5, 21, 22], [⟨0, 0, 2, true⟩, ⟨1, 0, 1, true⟩, ⟨5, 0, 1, false⟩]⟩ st (lpB Try.prog LL ⟨36, 52, b, ro⟩ n36_24 n36_25) := GE.lpB_step (by kernel_rfl) (n36_24k b ro)
theorem n36_24g : LL.code ⟨36, 52, b, ro⟩ n36_24 st = headS b ⟨[0, 1, 5, 21, 22], [⟨0, 0, 2, true⟩, ⟨1, 0, 1, true⟩, ⟨5, 0, 1, false⟩]⟩ st (lpB Try.prog LL ⟨36, 52, b, ro⟩ n36_24 n36_25) := GE.lpB_again (by kernel_rfl) (n36_24k b ro)
theorem n36_23s : codeB Try.prog E cx n36_23 st = blockS 0 (codeB Try.prog E cx n36_24 st) st := GE.block_step (by kernel_rfl)
theorem n36_21s : codeB Try.prog E cx n36_21 st = thenS (codeB Try.prog E cx n36_22 st) (codeB Try.prog E cx n36_23) := GE.seq_step (by kernel_rfl)
theorem n36_61s : codeB Try.prog E ⟨f, 52, b, ro⟩ n36_61 st = plainS (runOps Try.prog E b q36_61 (ops [true, true, true, true, false] Try.f36) st) := GE.region_step (id := 18) (GE.reg_of (by kernel_rfl)) (by kernel_rfl)
theorem n36_62s : codeB Try.prog LL ⟨36, 52, b, ro⟩ n36_62 st = normS b ⟨[4], [⟨4, 0, 1, false⟩]⟩ .ret st := GE.ret_step (by kernel_rfl) (by kernel_rfl)
theorem n36_60s : codeB Try.prog E cx n36_60 st = thenS (codeB Try.prog E cx n36_61 st) (codeB Try.prog E cx n36_62) := GE.seq_step (by kernel_rfl)
theorem n36_20s : codeB Try.prog E cx n36_20 st = thenS (codeB Try.prog E cx n36_21 st) (codeB Try.prog E cx n36_60) := GE.seq_step (by kernel_rfl)
theorem n36_18s : codeB Try.prog E cx n36_18 st = thenS (codeB Try.prog E cx n36_19 st) (codeB Try.prog E cx n36_20) := GE.seq_step (by kernel_rfl)
theorem n36_2s : codeB Try.prog E cx n36_2 st = thenS (codeB Try.prog E cx n36_3 st) (codeB Try.prog E cx n36_18) := GE.seq_step (by kernel_rfl)
theorem n36_0s : codeB Try.prog E cx n36_0 st = thenS (codeB Try.prog E cx n36_1 st) (codeB Try.prog E cx n36_2) := GE.seq_step (by kernel_rfl)
noncomputable def n38_0 : Code := bodyOf Try.f38
noncomputable def n38_1 : Code := cl n38_0
noncomputable def q38_1 : List Oper := opsOf n38_1
noncomputable def n38_2 : Code := cr n38_0
noncomputable def n38_3 : Code := cl n38_2
noncomputable def n38_4 : Code := cl n38_3
noncomputable def q38_4 : List Oper := opsOf n38_4
noncomputable def n38_5 : Code := cr n38_3
noncomputable def n38_6 : Code := cl n38_5
noncomputable def n38_7 : Code := cl n38_6
noncomputable def n38_8 : Code := cl n38_7
noncomputable def q38_8 : List Oper := opsOf n38_8
noncomputable def n38_9 : Code := cr n38_7
noncomputable def n38_10 : Code := cl n38_9
noncomputable def n38_11 : Code := cl n38_10
noncomputable def n38_12 : Code := cr n38_10
noncomputable def n38_13 : Code := cr n38_9
noncomputable def n38_14 : Code := cl n38_13
noncomputable def n38_15 : Code := cl n38_14
noncomputable def n38_16 : Code := cl n38_15
noncomputable def q38_16 : List Oper := opsOf n38_16
noncomputable def n38_17 : Code := cr n38_15
noncomputable def n38_18 : Code := cl n38_17
noncomputable def q38_18 : List Oper := opsOf n38_18
noncomputable def n38_19 : Code := cr n38_17
noncomputable def n38_20 : Code := cl n38_19
noncomputable def n38_21 : Code := cl n38_20
noncomputable def q38_21 : List Oper := opsOf n38_21
noncomputable def n38_22 : Code := cr n38_20
noncomputable def n38_23 : Code := cr n38_19
noncomputable def n38_24 : Code := cr n38_13
noncomputable def q38_24 : List Oper := opsOf n38_24
noncomputable def n38_25 : Code := cr n38_2
noncomputable def n38_26 : Code := cl n38_25
noncomputable def q38_26 : List Oper := opsOf n38_26
noncomputable def n38_27 : Code := cr n38_25
theorem body38 : Try.f38.body = some n38_0 := by kernel_rfl
theorem run38 (E : Ev) (args : List Value) (h : List Blk) (hl : args.length ≤ 17) : runB Try.prog E 38 args h = endS Try.prog [.tmp 4] h.length (codeB Try.prog E ⟨38, 17, h.length, none⟩ n38_0 ⟨enumT 0 args, h, []⟩) := GE.run_step Try.func38 body38 (by kernel_rfl) (by decide) (by kernel_rfl) hl
theorem n38_1s : codeB Try.prog E ⟨f, 17, b, ro⟩ n38_1 st = plainS (runOps Try.prog E b q38_1 (ops [false] Try.f38) st) := GE.region_step (id := 0) (GE.reg_of (by kernel_rfl)) (by kernel_rfl)
theorem n38_4s : codeB Try.prog E ⟨f, 17, b, ro⟩ n38_4 st = plainS (runOps Try.prog E b q38_4 (ops [true, false, false] Try.f38) st) := GE.region_step (id := 1) (GE.reg_of (by kernel_rfl)) (by kernel_rfl)
theorem n38_8s : codeB Try.prog E ⟨f, 17, b, ro⟩ n38_8 st = plainS (runOps Try.prog E b q38_8 (ops [true, false, true, false, false, false] Try.f38) st) := GE.region_step (id := 2) (GE.reg_of (by kernel_rfl)) (by kernel_rfl)
theorem n38_11s : codeB Try.prog E cx n38_11 st = some (.normal, st) := GE.skip_step (by kernel_rfl)
theorem n38_12s : codeB Try.prog LL ⟨38, 17, b, ro⟩ n38_12 st = normS b ⟨[], []⟩ (.exit 0) st := GE.exit_step (by kernel_rfl) (by kernel_rfl)
theorem n38_10s : codeB Try.prog E cx n38_10 st = condS (codeB Try.prog E cx n38_11) (codeB Try.prog E cx n38_12) (lk st.σ 10) st := GE.cond_step (c := .tmp 10) (by kernel_rfl)
theorem n38_16s : codeB Try.prog E ⟨f, 17, b, ro⟩ n38_16 st = plainS (runOps Try.prog E b q38_16 (ops [true, false, true, false, false, true, true, false, false, false] Try.f38) st) := GE.region_step (id := 3) (GE.reg_of (by kernel_rfl)) (by kernel_rfl)
theorem n38_18s : codeB Try.prog E ⟨f, 17, b, ro⟩ n38_18 st = plainS (runOps Try.prog E b q38_18 (ops [true, false, true, false, false, true, true, false, false, true, false] Try.f38) st) := GE.region_step (id := 4) (GE.reg_of (by kernel_rfl)) (by kernel_rfl)
theorem n38_21s : codeB Try.prog E ⟨f, 17, b, ro⟩ n38_21 st = plainS (runOps Try.prog E b q38_21 (ops [true, false, true, false, false, true, true, false, false, true, true, false, false] Try.f38) st) := GE.region_step (id := 5) (GE.reg_of (by kernel_rfl)) (by kernel_rfl)
theorem n38_22s : codeB Try.prog LL ⟨38, 17, b, ro⟩ n38_22 st = normS b ⟨[4], []⟩ .ret st := GE.ret_step (by kernel_rfl) (by kernel_rfl)
theorem n38_20s : codeB Try.prog E cx n38_20 st = thenS (codeB Try.prog E cx n38_21 st) (codeB Try.prog E cx n38_22) := GE.seq_step (by kernel_rfl)
theorem n38_23s : codeB Try.prog E cx n38_23 st = some (.normal, st) := GE.skip_step (by kernel_rfl)
theorem n38_19s : codeB Try.prog E cx n38_19 st = condS (codeB Try.prog E cx n38_20) (codeB Try.prog E cx n38_23) (lk st.σ 15) st := GE.cond_step (c := .tmp 15) (by kernel_rfl)
theorem n38_17s : codeB Try.prog E cx n38_17 st = thenS (codeB Try.prog E cx n38_18 st) (codeB Try.prog E cx n38_19) := GE.seq_step (by kernel_rfl)
theorem n38_15s : codeB Try.prog E cx n38_15 st = thenS (codeB Try.prog E cx n38_16 st) (codeB Try.prog E cx n38_17) := GE.seq_step (by kernel_rfl)
theorem n38_14s : codeB Try.prog E cx n38_14 st = blockS 1 (codeB Try.prog E cx n38_15 st) st := GE.block_step (by kernel_rfl)
theorem n38_24s : codeB Try.prog E ⟨f, 17, b, ro⟩ n38_24 st = plainS (runOps Try.prog E b q38_24 (ops [true, false, true, false, false, true, true, true] Try.f38) st) := GE.region_step (id := 6) (GE.reg_of (by kernel_rfl)) (by kernel_rfl)
theorem n38_13s : codeB Try.prog E cx n38_13 st = thenS (codeB Try.prog E cx n38_14 st) (codeB Try.prog E cx n38_24) := GE.seq_step (by kernel_rfl)
theorem n38_9s : codeB Try.prog E cx n38_9 st = thenS (codeB Try.prog E cx n38_10 st) (codeB Try.prog E cx n38_13) := GE.seq_step (by kernel_rfl)
theorem n38_7s : codeB Try.prog E cx n38_7 st = thenS (codeB Try.prog E cx n38_8 st) (codeB Try.prog E cx n38_9) := GE.seq_step (by kernel_rfl)
theorem n38_6k : LL.kp (⟨38, 17, b, ro⟩ : Cx).fn (4 * rid n38_7 + 3) = some ⟨[1, 7, 8, 9], [⟨7, 0, 1, true⟩]⟩ := by kernel_rfl
theorem n38_6s : codeB Try.prog LL ⟨38, 17, b, ro⟩ n38_6 st = headS b ⟨[1, 7, 8, 9], [⟨7, 0, 1, true⟩]⟩ st (lpB Try.prog LL ⟨38, 17, b, ro⟩ n38_6 n38_7) := GE.lpB_step (by kernel_rfl) (n38_6k b ro)
theorem n38_6g : LL.code ⟨38, 17, b, ro⟩ n38_6 st = headS b ⟨[1, 7, 8, 9], [⟨7, 0, 1, true⟩]⟩ st (lpB Try.prog LL ⟨38, 17, b, ro⟩ n38_6 n38_7) := GE.lpB_again (by kernel_rfl) (n38_6k b ro)
theorem n38_5s : codeB Try.prog E cx n38_5 st = blockS 0 (codeB Try.prog E cx n38_6 st) st := GE.block_step (by kernel_rfl)
theorem n38_3s : codeB Try.prog E cx n38_3 st = thenS (codeB Try.prog E cx n38_4 st) (codeB Try.prog E cx n38_5) := GE.seq_step (by kernel_rfl)
theorem n38_26s : codeB Try.prog E ⟨f, 17, b, ro⟩ n38_26 st = plainS (runOps Try.prog E b q38_26 (ops [true, true, false] Try.f38) st) := GE.region_step (id := 7) (GE.reg_of (by kernel_rfl)) (by kernel_rfl)
theorem n38_27s : codeB Try.prog LL ⟨38, 17, b, ro⟩ n38_27 st = normS b ⟨[4], []⟩ .ret st := GE.ret_step (by kernel_rfl) (by kernel_rfl)
theorem n38_25s : codeB Try.prog E cx n38_25 st = thenS (codeB Try.prog E cx n38_26 st) (codeB Try.prog E cx n38_27) := GE.seq_step (by kernel_rfl)
theorem n38_2s : codeB Try.prog E cx n38_2 st = thenS (codeB Try.prog E cx n38_3 st) (codeB Try.prog E cx n38_25) := GE.seq_step (by kernel_rfl)
theorem n38_0s : codeB Try.prog E cx n38_0 st = thenS (codeB Try.prog E cx n38_1 st) (codeB Try.prog E cx n38_2) := GE.seq_step (by kernel_rfl)
noncomputable def n44_0 : Code := bodyOf Try.f44
noncomputable def n44_1 : Code := cl n44_0
noncomputable def q44_1 : List Oper := opsOf n44_1
noncomputable def n44_2 : Code := cr n44_0
noncomputable def n44_3 : Code := cl n44_2
noncomputable def q44_3 : List Oper := opsOf n44_3
noncomputable def n44_4 : Code := cr n44_2
noncomputable def n44_5 : Code := cl n44_4
noncomputable def n44_6 : Code := cl n44_5
noncomputable def q44_6 : List Oper := opsOf n44_6
noncomputable def n44_7 : Code := cr n44_5
noncomputable def n44_8 : Code := cl n44_7
noncomputable def n44_9 : Code := cl n44_8
noncomputable def n44_10 : Code := cl n44_9
noncomputable def n44_11 : Code := cl n44_10
noncomputable def q44_11 : List Oper := opsOf n44_11
noncomputable def n44_12 : Code := cr n44_10
noncomputable def n44_13 : Code := cl n44_12
noncomputable def n44_14 : Code := cr n44_12
noncomputable def n44_15 : Code := cr n44_9
noncomputable def n44_16 : Code := cl n44_15
noncomputable def n44_17 : Code := cl n44_16
noncomputable def q44_17 : List Oper := opsOf n44_17
noncomputable def n44_18 : Code := cr n44_15
noncomputable def q44_18 : List Oper := opsOf n44_18
noncomputable def n44_19 : Code := cr n44_4
noncomputable def n44_20 : Code := cl n44_19
noncomputable def q44_20 : List Oper := opsOf n44_20
noncomputable def n44_21 : Code := cr n44_19
theorem body44 : Try.f44.body = some n44_0 := by kernel_rfl
theorem run44 (E : Ev) (args : List Value) (h : List Blk) (hl : args.length ≤ 26) : runB Try.prog E 44 args h = endS Try.prog [.tmp 2] h.length (codeB Try.prog E ⟨44, 26, h.length, none⟩ n44_0 ⟨enumT 0 args, h, []⟩) := GE.run_step Try.func44 body44 (by kernel_rfl) (by decide) (by kernel_rfl) hl
theorem n44_1s : codeB Try.prog E ⟨f, 26, b, ro⟩ n44_1 st = plainS (runOps Try.prog E b q44_1 (ops [false] Try.f44) st) := GE.region_step (id := 0) (GE.reg_of (by kernel_rfl)) (by kernel_rfl)
theorem n44_3s : codeB Try.prog E ⟨f, 26, b, ro⟩ n44_3 st = plainS (runOps Try.prog E b q44_3 (ops [true, false] Try.f44) st) := GE.region_step (id := 1) (GE.reg_of (by kernel_rfl)) (by kernel_rfl)
theorem n44_6s : codeB Try.prog E ⟨f, 26, b, ro⟩ n44_6 st = plainS (runOps Try.prog E b q44_6 (ops [true, true, false, false] Try.f44) st) := GE.region_step (id := 2) (GE.reg_of (by kernel_rfl)) (by kernel_rfl)
theorem n44_11s : codeB Try.prog E ⟨f, 26, b, ro⟩ n44_11 st = plainS (runOps Try.prog E b q44_11 (ops [true, true, false, true, false, false, false, false] Try.f44) st) := GE.region_step (id := 3) (GE.reg_of (by kernel_rfl)) (by kernel_rfl)
theorem n44_13s : codeB Try.prog E cx n44_13 st = some (.normal, st) := GE.skip_step (by kernel_rfl)
theorem n44_14s : codeB Try.prog LL ⟨44, 26, b, ro⟩ n44_14 st = normS b ⟨[3], [⟨3, 0, 2, true⟩]⟩ (.exit 0) st := GE.exit_step (by kernel_rfl) (by kernel_rfl)
theorem n44_12s : codeB Try.prog E cx n44_12 st = condS (codeB Try.prog E cx n44_13) (codeB Try.prog E cx n44_14) (lk st.σ 9) st := GE.cond_step (c := .tmp 9) (by kernel_rfl)
theorem n44_10s : codeB Try.prog E cx n44_10 st = thenS (codeB Try.prog E cx n44_11 st) (codeB Try.prog E cx n44_12) := GE.seq_step (by kernel_rfl)
theorem n44_17s : codeB Try.prog E ⟨f, 26, b, ro⟩ n44_17 st = drawS [0, 0, 0, 6, 14, 0, 0, 64, 224, 480, 1022, 2046, 4095, 8191] (runOpsF Try.prog E b q44_17 (ops [true, true, false, true, false, false, true, false, false] Try.f44) st) := GE.draw_step (id := 5) (GE.reg_of (by kernel_rfl)) (by kernel_rfl) (by kernel_rfl) (by kernel_rfl)
theorem n44_16s : codeB Try.prog E cx n44_16 st = blockS 1 (codeB Try.prog E cx n44_17 st) st := GE.block_step (by kernel_rfl)
theorem n44_18s : codeB Try.prog E ⟨f, 26, b, ro⟩ n44_18 st = plainS (runOps Try.prog E b q44_18 (ops [true, true, false, true, false, false, true, true] Try.f44) st) := GE.region_step (id := 4) (GE.reg_of (by kernel_rfl)) (by kernel_rfl)
theorem n44_15s : codeB Try.prog E cx n44_15 st = thenS (codeB Try.prog E cx n44_16 st) (codeB Try.prog E cx n44_18) := GE.seq_step (by kernel_rfl)
theorem n44_9s : codeB Try.prog E cx n44_9 st = thenS (codeB Try.prog E cx n44_10 st) (codeB Try.prog E cx n44_15) := GE.seq_step (by kernel_rfl)
theorem n44_8k : LL.kp (⟨44, 26, b, ro⟩ : Cx).fn (4 * rid n44_9 + 3) = some ⟨[0, 3, 4], [⟨0, 0, 1, true⟩, ⟨3, 0, 2, true⟩]⟩ := by kernel_rfl
theorem n44_8s : codeB Try.prog LL ⟨44, 26, b, ro⟩ n44_8 st = headS b ⟨[0, 3, 4], [⟨0, 0, 1, true⟩, ⟨3, 0, 2, true⟩]⟩ st (lpB Try.prog LL ⟨44, 26, b, ro⟩ n44_8 n44_9) := GE.lpB_step (by kernel_rfl) (n44_8k b ro)
theorem n44_8g : LL.code ⟨44, 26, b, ro⟩ n44_8 st = headS b ⟨[0, 3, 4], [⟨0, 0, 1, true⟩, ⟨3, 0, 2, true⟩]⟩ st (lpB Try.prog LL ⟨44, 26, b, ro⟩ n44_8 n44_9) := GE.lpB_again (by kernel_rfl) (n44_8k b ro)
theorem n44_7s : codeB Try.prog E cx n44_7 st = blockS 0 (codeB Try.prog E cx n44_8 st) st := GE.block_step (by kernel_rfl)
theorem n44_5s : codeB Try.prog E cx n44_5 st = thenS (codeB Try.prog E cx n44_6 st) (codeB Try.prog E cx n44_7) := GE.seq_step (by kernel_rfl)
theorem n44_20s : codeB Try.prog E ⟨f, 26, b, ro⟩ n44_20 st = plainS (runOps Try.prog E b q44_20 (ops [true, true, true, false] Try.f44) st) := GE.region_step (id := 6) (GE.reg_of (by kernel_rfl)) (by kernel_rfl)
theorem n44_21s : codeB Try.prog LL ⟨44, 26, b, ro⟩ n44_21 st = normS b ⟨[2], [⟨2, 0, 2, true⟩]⟩ .ret st := GE.ret_step (by kernel_rfl) (by kernel_rfl)
theorem n44_19s : codeB Try.prog E cx n44_19 st = thenS (codeB Try.prog E cx n44_20 st) (codeB Try.prog E cx n44_21) := GE.seq_step (by kernel_rfl)
theorem n44_4s : codeB Try.prog E cx n44_4 st = thenS (codeB Try.prog E cx n44_5 st) (codeB Try.prog E cx n44_19) := GE.seq_step (by kernel_rfl)
theorem n44_2s : codeB Try.prog E cx n44_2 st = thenS (codeB Try.prog E cx n44_3 st) (codeB Try.prog E cx n44_4) := GE.seq_step (by kernel_rfl)
theorem n44_0s : codeB Try.prog E cx n44_0 st = thenS (codeB Try.prog E cx n44_1 st) (codeB Try.prog E cx n44_2) := GE.seq_step (by kernel_rfl)
noncomputable def n45_0 : Code := bodyOf Try.f45
noncomputable def n45_1 : Code := cl n45_0
noncomputable def q45_1 : List Oper := opsOf n45_1
noncomputable def n45_2 : Code := cr n45_0
noncomputable def n45_3 : Code := cl n45_2
noncomputable def n45_4 : Code := cl n45_3
noncomputable def n45_5 : Code := cl n45_4
noncomputable def q45_5 : List Oper := opsOf n45_5
noncomputable def n45_6 : Code := cr n45_4
noncomputable def n45_7 : Code := cl n45_6
noncomputable def n45_8 : Code := cl n45_7
noncomputable def q45_8 : List Oper := opsOf n45_8
noncomputable def n45_9 : Code := cr n45_7
noncomputable def n45_10 : Code := cr n45_6
noncomputable def n45_11 : Code := cl n45_10
noncomputable def q45_11 : List Oper := opsOf n45_11
noncomputable def n45_12 : Code := cr n45_10
noncomputable def n45_13 : Code := cl n45_12
noncomputable def n45_14 : Code := cl n45_13
noncomputable def q45_14 : List Oper := opsOf n45_14
noncomputable def n45_15 : Code := cr n45_13
noncomputable def n45_16 : Code := cr n45_12
noncomputable def n45_17 : Code := cl n45_16
noncomputable def q45_17 : List Oper := opsOf n45_17
noncomputable def n45_18 : Code := cr n45_16
noncomputable def n45_19 : Code := cl n45_18
noncomputable def n45_20 : Code := cl n45_19
noncomputable def q45_20 : List Oper := opsOf n45_20
noncomputable def n45_21 : Code := cr n45_19
noncomputable def n45_22 : Code := cr n45_18
noncomputable def n45_23 : Code := cr n45_2
noncomputable def n45_24 : Code := cl n45_23
noncomputable def q45_24 : List Oper := opsOf n45_24
noncomputable def n45_25 : Code := cr n45_23
theorem body45 : Try.f45.body = some n45_0 := by kernel_rfl
theorem run45 (E : Ev) (args : List Value) (h : List Blk) (hl : args.length ≤ 14) : runB Try.prog E 45 args h = endS Try.prog [.tmp 2] h.length (codeB Try.prog E ⟨45, 14, h.length, none⟩ n45_0 ⟨enumT 0 args, h, []⟩) := GE.run_step Try.func45 body45 (by kernel_rfl) (by decide) (by kernel_rfl) hl
theorem n45_1s : codeB Try.prog E ⟨f, 14, b, ro⟩ n45_1 st = plainS (runOps Try.prog E b q45_1 (ops [false] Try.f45) st) := GE.region_step (id := 0) (GE.reg_of (by kernel_rfl)) (by kernel_rfl)
theorem n45_5s : codeB Try.prog E ⟨f, 14, b, ro⟩ n45_5 st = plainS (runOps Try.prog E b q45_5 (ops [true, false, false, false] Try.f45) st) := GE.region_step (id := 1) (GE.reg_of (by kernel_rfl)) (by kernel_rfl)
theorem n45_8s : codeB Try.prog E ⟨f, 14, b, ro⟩ n45_8 st = plainS (runOps Try.prog E b q45_8 (ops [true, false, false, true, false, false] Try.f45) st) := GE.region_step (id := 2) (GE.reg_of (by kernel_rfl)) (by kernel_rfl)
theorem n45_9s : codeB Try.prog LL ⟨45, 14, b, ro⟩ n45_9 st = normS b ⟨[2], []⟩ .ret st := GE.ret_step (by kernel_rfl) (by kernel_rfl)
theorem n45_7s : codeB Try.prog E cx n45_7 st = thenS (codeB Try.prog E cx n45_8 st) (codeB Try.prog E cx n45_9) := GE.seq_step (by kernel_rfl)
theorem n45_11s : codeB Try.prog E ⟨f, 14, b, ro⟩ n45_11 st = plainS (runOps Try.prog E b q45_11 (ops [true, false, false, true, true, false] Try.f45) st) := GE.region_step (id := 3) (GE.reg_of (by kernel_rfl)) (by kernel_rfl)
theorem n45_14s : codeB Try.prog E ⟨f, 14, b, ro⟩ n45_14 st = plainS (runOps Try.prog E b q45_14 (ops [true, false, false, true, true, true, false, false] Try.f45) st) := GE.region_step (id := 4) (GE.reg_of (by kernel_rfl)) (by kernel_rfl)
theorem n45_15s : codeB Try.prog LL ⟨45, 14, b, ro⟩ n45_15 st = normS b ⟨[2], []⟩ .ret st := GE.ret_step (by kernel_rfl) (by kernel_rfl)
theorem n45_13s : codeB Try.prog E cx n45_13 st = thenS (codeB Try.prog E cx n45_14 st) (codeB Try.prog E cx n45_15) := GE.seq_step (by kernel_rfl)
theorem n45_17s : codeB Try.prog E ⟨f, 14, b, ro⟩ n45_17 st = plainS (runOps Try.prog E b q45_17 (ops [true, false, false, true, true, true, true, false] Try.f45) st) := GE.region_step (id := 5) (GE.reg_of (by kernel_rfl)) (by kernel_rfl)
theorem n45_20s : codeB Try.prog E ⟨f, 14, b, ro⟩ n45_20 st = plainS (runOps Try.prog E b q45_20 (ops [true, false, false, true, true, true, true, true, false, false] Try.f45) st) := GE.region_step (id := 6) (GE.reg_of (by kernel_rfl)) (by kernel_rfl)
theorem n45_21s : codeB Try.prog LL ⟨45, 14, b, ro⟩ n45_21 st = normS b ⟨[2], []⟩ .ret st := GE.ret_step (by kernel_rfl) (by kernel_rfl)
theorem n45_19s : codeB Try.prog E cx n45_19 st = thenS (codeB Try.prog E cx n45_20 st) (codeB Try.prog E cx n45_21) := GE.seq_step (by kernel_rfl)
theorem n45_22s : codeB Try.prog E cx n45_22 st = some (.normal, st) := GE.skip_step (by kernel_rfl)
theorem n45_18s : codeB Try.prog E cx n45_18 st = condS (codeB Try.prog E cx n45_19) (codeB Try.prog E cx n45_22) (lk st.σ 11) st := GE.cond_step (c := .tmp 11) (by kernel_rfl)
theorem n45_16s : codeB Try.prog E cx n45_16 st = thenS (codeB Try.prog E cx n45_17 st) (codeB Try.prog E cx n45_18) := GE.seq_step (by kernel_rfl)
theorem n45_12s : codeB Try.prog E cx n45_12 st = condS (codeB Try.prog E cx n45_13) (codeB Try.prog E cx n45_16) (lk st.σ 7) st := GE.cond_step (c := .tmp 7) (by kernel_rfl)
theorem n45_10s : codeB Try.prog E cx n45_10 st = thenS (codeB Try.prog E cx n45_11 st) (codeB Try.prog E cx n45_12) := GE.seq_step (by kernel_rfl)
theorem n45_6s : codeB Try.prog E cx n45_6 st = condS (codeB Try.prog E cx n45_7) (codeB Try.prog E cx n45_10) (lk st.σ 3) st := GE.cond_step (c := .tmp 3) (by kernel_rfl)
theorem n45_4s : codeB Try.prog E cx n45_4 st = thenS (codeB Try.prog E cx n45_5 st) (codeB Try.prog E cx n45_6) := GE.seq_step (by kernel_rfl)
theorem n45_3s : codeB Try.prog E cx n45_3 st = blockS 0 (codeB Try.prog E cx n45_4 st) st := GE.block_step (by kernel_rfl)
theorem n45_24s : codeB Try.prog E ⟨f, 14, b, ro⟩ n45_24 st = plainS (runOps Try.prog E b q45_24 (ops [true, true, false] Try.f45) st) := GE.region_step (id := 7) (GE.reg_of (by kernel_rfl)) (by kernel_rfl)
theorem n45_25s : codeB Try.prog LL ⟨45, 14, b, ro⟩ n45_25 st = normS b ⟨[2], []⟩ .ret st := GE.ret_step (by kernel_rfl) (by kernel_rfl)
theorem n45_23s : codeB Try.prog E cx n45_23 st = thenS (codeB Try.prog E cx n45_24 st) (codeB Try.prog E cx n45_25) := GE.seq_step (by kernel_rfl)
theorem n45_2s : codeB Try.prog E cx n45_2 st = thenS (codeB Try.prog E cx n45_3 st) (codeB Try.prog E cx n45_23) := GE.seq_step (by kernel_rfl)
theorem n45_0s : codeB Try.prog E cx n45_0 st = thenS (codeB Try.prog E cx n45_1 st) (codeB Try.prog E cx n45_2) := GE.seq_step (by kernel_rfl)
noncomputable def n51_0 : Code := bodyOf Try.f51
noncomputable def n51_1 : Code := cl n51_0
noncomputable def q51_1 : List Oper := opsOf n51_1
noncomputable def n51_2 : Code := cr n51_0
noncomputable def n51_3 : Code := cl n51_2
noncomputable def q51_3 : List Oper := opsOf n51_3
noncomputable def n51_4 : Code := cr n51_2
noncomputable def n51_5 : Code := cl n51_4
noncomputable def n51_6 : Code := cl n51_5
noncomputable def q51_6 : List Oper := opsOf n51_6
noncomputable def n51_7 : Code := cr n51_5
noncomputable def n51_8 : Code := cl n51_7
noncomputable def n51_9 : Code := cl n51_8
noncomputable def n51_10 : Code := cl n51_9
noncomputable def q51_10 : List Oper := opsOf n51_10
noncomputable def n51_11 : Code := cr n51_9
noncomputable def n51_12 : Code := cl n51_11
noncomputable def n51_13 : Code := cl n51_12
noncomputable def n51_14 : Code := cr n51_12
noncomputable def n51_15 : Code := cr n51_11
noncomputable def n51_16 : Code := cl n51_15
noncomputable def n51_17 : Code := cl n51_16
noncomputable def n51_18 : Code := cl n51_17
noncomputable def q51_18 : List Oper := opsOf n51_18
noncomputable def n51_19 : Code := cr n51_17
noncomputable def n51_20 : Code := cl n51_19
noncomputable def q51_20 : List Oper := opsOf n51_20
noncomputable def n51_21 : Code := cr n51_19
noncomputable def n51_22 : Code := cl n51_21
noncomputable def q51_22 : List Oper := opsOf n51_22
noncomputable def n51_23 : Code := cr n51_21
noncomputable def n51_24 : Code := cl n51_23
noncomputable def n51_25 : Code := cl n51_24
noncomputable def q51_25 : List Oper := opsOf n51_25
noncomputable def n51_26 : Code := cr n51_24
noncomputable def n51_27 : Code := cr n51_23
noncomputable def n51_28 : Code := cr n51_15
noncomputable def q51_28 : List Oper := opsOf n51_28
noncomputable def n51_29 : Code := cr n51_4
noncomputable def n51_30 : Code := cl n51_29
noncomputable def q51_30 : List Oper := opsOf n51_30
noncomputable def n51_31 : Code := cr n51_29
theorem body51 : Try.f51.body = some n51_0 := by kernel_rfl
theorem run51 (E : Ev) (args : List Value) (h : List Blk) (hl : args.length ≤ 29) : runB Try.prog E 51 args h = endS Try.prog [.tmp 4] h.length (codeB Try.prog E ⟨51, 29, h.length, none⟩ n51_0 ⟨enumT 0 args, h, []⟩) := GE.run_step Try.func51 body51 (by kernel_rfl) (by decide) (by kernel_rfl) hl
theorem n51_1s : codeB Try.prog E ⟨f, 29, b, ro⟩ n51_1 st = plainS (runOps Try.prog E b q51_1 (ops [false] Try.f51) st) := GE.region_step (id := 0) (GE.reg_of (by kernel_rfl)) (by kernel_rfl)
theorem n51_3s : codeB Try.prog E ⟨f, 29, b, ro⟩ n51_3 st = plainS (runOps Try.prog E b q51_3 (ops [true, false] Try.f51) st) := GE.region_step (id := 1) (GE.reg_of (by kernel_rfl)) (by kernel_rfl)
theorem n51_6s : codeB Try.prog E ⟨f, 29, b, ro⟩ n51_6 st = plainS (runOps Try.prog E b q51_6 (ops [true, true, false, false] Try.f51) st) := GE.region_step (id := 2) (GE.reg_of (by kernel_rfl)) (by kernel_rfl)
theorem n51_10s : codeB Try.prog E ⟨f, 29, b, ro⟩ n51_10 st = plainS (runOps Try.prog E b q51_10 (ops [true, true, false, true, false, false, false] Try.f51) st) := GE.region_step (id := 3) (GE.reg_of (by kernel_rfl)) (by kernel_rfl)
theorem n51_13s : codeB Try.prog E cx n51_13 st = some (.normal, st) := GE.skip_step (by kernel_rfl)
theorem n51_14s : codeB Try.prog LL ⟨51, 29, b, ro⟩ n51_14 st = normS b ⟨[], []⟩ (.exit 0) st := GE.exit_step (by kernel_rfl) (by kernel_rfl)
theorem n51_12s : codeB Try.prog E cx n51_12 st = condS (codeB Try.prog E cx n51_13) (codeB Try.prog E cx n51_14) (lk st.σ 11) st := GE.cond_step (c := .tmp 11) (by kernel_rfl)
theorem n51_18s : codeB Try.prog E ⟨f, 29, b, ro⟩ n51_18 st = plainS (runOps Try.prog E b q51_18 (ops [true, true, false, true, false, false, true, true, false, false, false] Try.f51) st) := GE.region_step (id := 4) (GE.reg_of (by kernel_rfl)) (by kernel_rfl)
theorem n51_20s : codeB Try.prog E ⟨f, 29, b, ro⟩ n51_20 st = plainS (runOps Try.prog E b q51_20 (ops [true, true, false, true, false, false, true, true, false, false, true, false] Try.f51) st) := GE.region_step (id := 5) (GE.reg_of (by kernel_rfl)) (by kernel_rfl)
theorem n51_22s : codeB Try.prog E ⟨f, 29, b, ro⟩ n51_22 st = plainS (runOps Try.prog E b q51_22 (ops [true, true, false, true, false, false, true, true, false, false, true, true, false] Try.f51) st) := GE.region_step (id := 6) (GE.reg_of (by kernel_rfl)) (by kernel_rfl)
theorem n51_25s : codeB Try.prog E ⟨f, 29, b, ro⟩ n51_25 st = plainS (runOps Try.prog E b q51_25 (ops [true, true, false, true, false, false, true, true, false, false, true, true, true, false, false] Try.f51) st) := GE.region_step (id := 7) (GE.reg_of (by kernel_rfl)) (by kernel_rfl)
theorem n51_26s : codeB Try.prog LL ⟨51, 29, b, ro⟩ n51_26 st = normS b ⟨[4], []⟩ .ret st := GE.ret_step (by kernel_rfl) (by kernel_rfl)
theorem n51_24s : codeB Try.prog E cx n51_24 st = thenS (codeB Try.prog E cx n51_25 st) (codeB Try.prog E cx n51_26) := GE.seq_step (by kernel_rfl)
theorem n51_27s : codeB Try.prog E cx n51_27 st = some (.normal, st) := GE.skip_step (by kernel_rfl)
theorem n51_23s : codeB Try.prog E cx n51_23 st = condS (codeB Try.prog E cx n51_24) (codeB Try.prog E cx n51_27) (lk st.σ 27) st := GE.cond_step (c := .tmp 27) (by kernel_rfl)
theorem n51_21s : codeB Try.prog E cx n51_21 st = thenS (codeB Try.prog E cx n51_22 st) (codeB Try.prog E cx n51_23) := GE.seq_step (by kernel_rfl)
theorem n51_19s : codeB Try.prog E cx n51_19 st = thenS (codeB Try.prog E cx n51_20 st) (codeB Try.prog E cx n51_21) := GE.seq_step (by kernel_rfl)
theorem n51_17s : codeB Try.prog E cx n51_17 st = thenS (codeB Try.prog E cx n51_18 st) (codeB Try.prog E cx n51_19) := GE.seq_step (by kernel_rfl)
theorem n51_16s : codeB Try.prog E cx n51_16 st = blockS 1 (codeB Try.prog E cx n51_17 st) st := GE.block_step (by kernel_rfl)
theorem n51_28s : codeB Try.prog E ⟨f, 29, b, ro⟩ n51_28 st = plainS (runOps Try.prog E b q51_28 (ops [true, true, false, true, false, false, true, true, true] Try.f51) st) := GE.region_step (id := 8) (GE.reg_of (by kernel_rfl)) (by kernel_rfl)
theorem n51_15s : codeB Try.prog E cx n51_15 st = thenS (codeB Try.prog E cx n51_16 st) (codeB Try.prog E cx n51_28) := GE.seq_step (by kernel_rfl)
theorem n51_11s : codeB Try.prog E cx n51_11 st = thenS (codeB Try.prog E cx n51_12 st) (codeB Try.prog E cx n51_15) := GE.seq_step (by kernel_rfl)
theorem n51_9s : codeB Try.prog E cx n51_9 st = thenS (codeB Try.prog E cx n51_10 st) (codeB Try.prog E cx n51_11) := GE.seq_step (by kernel_rfl)
theorem n51_8k : LL.kp (⟨51, 29, b, ro⟩ : Cx).fn (4 * rid n51_9 + 3) = some ⟨[0, 5, 8, 9, 10], [⟨0, 0, 2, true⟩, ⟨8, 0, 1, true⟩]⟩ := by kernel_rfl
theorem n51_8s : codeB Try.prog LL ⟨51, 29, b, ro⟩ n51_8 st = headS b ⟨[0, 5, 8, 9, 10], [⟨0, 0, 2, true⟩, ⟨8, 0, 1, true⟩]⟩ st (lpB Try.prog LL ⟨51, 29, b, ro⟩ n51_8 n51_9) := GE.lpB_step (by kernel_rfl) (n51_8k b ro)
theorem n51_8g : LL.code ⟨51, 29, b, ro⟩ n51_8 st = headS b ⟨[0, 5, 8, 9, 10], [⟨0, 0, 2, true⟩, ⟨8, 0, 1, true⟩]⟩ st (lpB Try.prog LL ⟨51, 29, b, ro⟩ n51_8 n51_9) := GE.lpB_again (by kernel_rfl) (n51_8k b ro)
theorem n51_7s : codeB Try.prog E cx n51_7 st = blockS 0 (codeB Try.prog E cx n51_8 st) st := GE.block_step (by kernel_rfl)
theorem n51_5s : codeB Try.prog E cx n51_5 st = thenS (codeB Try.prog E cx n51_6 st) (codeB Try.prog E cx n51_7) := GE.seq_step (by kernel_rfl)
theorem n51_30s : codeB Try.prog E ⟨f, 29, b, ro⟩ n51_30 st = plainS (runOps Try.prog E b q51_30 (ops [true, true, true, false] Try.f51) st) := GE.region_step (id := 9) (GE.reg_of (by kernel_rfl)) (by kernel_rfl)
theorem n51_31s : codeB Try.prog LL ⟨51, 29, b, ro⟩ n51_31 st = normS b ⟨[4], []⟩ .ret st := GE.ret_step (by kernel_rfl) (by kernel_rfl)
theorem n51_29s : codeB Try.prog E cx n51_29 st = thenS (codeB Try.prog E cx n51_30 st) (codeB Try.prog E cx n51_31) := GE.seq_step (by kernel_rfl)
theorem n51_4s : codeB Try.prog E cx n51_4 st = thenS (codeB Try.prog E cx n51_5 st) (codeB Try.prog E cx n51_29) := GE.seq_step (by kernel_rfl)
theorem n51_2s : codeB Try.prog E cx n51_2 st = thenS (codeB Try.prog E cx n51_3 st) (codeB Try.prog E cx n51_4) := GE.seq_step (by kernel_rfl)
theorem n51_0s : codeB Try.prog E cx n51_0 st = thenS (codeB Try.prog E cx n51_1 st) (codeB Try.prog E cx n51_2) := GE.seq_step (by kernel_rfl)
noncomputable def n53_0 : Code := bodyOf Try.f53
noncomputable def n53_1 : Code := cl n53_0
noncomputable def q53_1 : List Oper := opsOf n53_1
noncomputable def n53_2 : Code := cr n53_0
noncomputable def n53_3 : Code := cl n53_2
noncomputable def n53_4 : Code := cl n53_3
noncomputable def q53_4 : List Oper := opsOf n53_4
noncomputable def n53_5 : Code := cr n53_3
noncomputable def n53_6 : Code := cl n53_5
noncomputable def n53_7 : Code := cl n53_6
noncomputable def q53_7 : List Oper := opsOf n53_7
noncomputable def n53_8 : Code := cr n53_6
noncomputable def n53_9 : Code := cr n53_5
noncomputable def n53_10 : Code := cr n53_2
noncomputable def n53_11 : Code := cl n53_10
noncomputable def q53_11 : List Oper := opsOf n53_11
noncomputable def n53_12 : Code := cr n53_10
noncomputable def n53_13 : Code := cl n53_12
noncomputable def n53_14 : Code := cl n53_13
noncomputable def q53_14 : List Oper := opsOf n53_14
noncomputable def n53_15 : Code := cr n53_13
noncomputable def n53_16 : Code := cl n53_15
noncomputable def n53_17 : Code := cl n53_16
noncomputable def n53_18 : Code := cl n53_17
noncomputable def q53_18 : List Oper := opsOf n53_18
noncomputable def n53_19 : Code := cr n53_17
noncomputable def n53_20 : Code := cl n53_19
noncomputable def n53_21 : Code := cl n53_20
noncomputable def n53_22 : Code := cr n53_20
noncomputable def n53_23 : Code := cr n53_19
noncomputable def n53_24 : Code := cl n53_23
noncomputable def n53_25 : Code := cl n53_24
noncomputable def n53_26 : Code := cl n53_25
noncomputable def q53_26 : List Oper := opsOf n53_26
noncomputable def n53_27 : Code := cr n53_25
noncomputable def n53_28 : Code := cl n53_27
noncomputable def q53_28 : List Oper := opsOf n53_28
noncomputable def n53_29 : Code := cr n53_27
noncomputable def n53_30 : Code := cl n53_29
noncomputable def n53_31 : Code := cl n53_30
noncomputable def q53_31 : List Oper := opsOf n53_31
noncomputable def n53_32 : Code := cr n53_30
noncomputable def n53_33 : Code := cr n53_29
noncomputable def n53_34 : Code := cr n53_23
noncomputable def q53_34 : List Oper := opsOf n53_34
noncomputable def n53_35 : Code := cr n53_12
noncomputable def n53_36 : Code := cl n53_35
noncomputable def q53_36 : List Oper := opsOf n53_36
noncomputable def n53_37 : Code := cr n53_35
theorem body53 : Try.f53.body = some n53_0 := by kernel_rfl
theorem run53 (E : Ev) (args : List Value) (h : List Blk) (hl : args.length ≤ 30) : runB Try.prog E 53 args h = endS Try.prog [.tmp 6] h.length (codeB Try.prog E ⟨53, 30, h.length, none⟩ n53_0 ⟨enumT 0 args, h, []⟩) := GE.run_step Try.func53 body53 (by kernel_rfl) (by decide) (by kernel_rfl) hl
theorem n53_1s : codeB Try.prog E ⟨f, 30, b, ro⟩ n53_1 st = plainS (runOps Try.prog E b q53_1 (ops [false] Try.f53) st) := GE.region_step (id := 0) (GE.reg_of (by kernel_rfl)) (by kernel_rfl)
theorem n53_4s : codeB Try.prog E ⟨f, 30, b, ro⟩ n53_4 st = plainS (runOps Try.prog E b q53_4 (ops [true, false, false] Try.f53) st) := GE.region_step (id := 1) (GE.reg_of (by kernel_rfl)) (by kernel_rfl)
theorem n53_7s : codeB Try.prog E ⟨f, 30, b, ro⟩ n53_7 st = plainS (runOps Try.prog E b q53_7 (ops [true, false, true, false, false] Try.f53) st) := GE.region_step (id := 2) (GE.reg_of (by kernel_rfl)) (by kernel_rfl)
theorem n53_8s : codeB Try.prog LL ⟨53, 30, b, ro⟩ n53_8 st = normS b ⟨[6], []⟩ .ret st := GE.ret_step (by kernel_rfl) (by kernel_rfl)
theorem n53_6s : codeB Try.prog E cx n53_6 st = thenS (codeB Try.prog E cx n53_7 st) (codeB Try.prog E cx n53_8) := GE.seq_step (by kernel_rfl)
theorem n53_9s : codeB Try.prog E cx n53_9 st = some (.normal, st) := GE.skip_step (by kernel_rfl)
theorem n53_5s : codeB Try.prog E cx n53_5 st = condS (codeB Try.prog E cx n53_6) (codeB Try.prog E cx n53_9) (lk st.σ 11) st := GE.cond_step (c := .tmp 11) (by kernel_rfl)
theorem n53_3s : codeB Try.prog E cx n53_3 st = thenS (codeB Try.prog E cx n53_4 st) (codeB Try.prog E cx n53_5) := GE.seq_step (by kernel_rfl)
theorem n53_11s : codeB Try.prog E ⟨f, 30, b, ro⟩ n53_11 st = plainS (runOps Try.prog E b q53_11 (ops [true, true, false] Try.f53) st) := GE.region_step (id := 3) (GE.reg_of (by kernel_rfl)) (by kernel_rfl)
theorem n53_14s : codeB Try.prog E ⟨f, 30, b, ro⟩ n53_14 st = plainS (runOps Try.prog E b q53_14 (ops [true, true, true, false, false] Try.f53) st) := GE.region_step (id := 4) (GE.reg_of (by kernel_rfl)) (by kernel_rfl)
theorem n53_18s : codeB Try.prog E ⟨f, 30, b, ro⟩ n53_18 st = plainS (runOps Try.prog E b q53_18 (ops [true, true, true, false, true, false, false, false] Try.f53) st) := GE.region_step (id := 5) (GE.reg_of (by kernel_rfl)) (by kernel_rfl)
theorem n53_21s : codeB Try.prog E cx n53_21 st = some (.normal, st) := GE.skip_step (by kernel_rfl)
theorem n53_22s : codeB Try.prog LL ⟨53, 30, b, ro⟩ n53_22 st = normS b ⟨[], []⟩ (.exit 0) st := GE.exit_step (by kernel_rfl) (by kernel_rfl)
theorem n53_20s : codeB Try.prog E cx n53_20 st = condS (codeB Try.prog E cx n53_21) (codeB Try.prog E cx n53_22) (lk st.σ 17) st := GE.cond_step (c := .tmp 17) (by kernel_rfl)
theorem n53_26s : codeB Try.prog E ⟨f, 30, b, ro⟩ n53_26 st = plainS (runOps Try.prog E b q53_26 (ops [true, true, true, false, true, false, false, true, true, false, false, false] Try.f53) st) := GE.region_step (id := 6) (GE.reg_of (by kernel_rfl)) (by kernel_rfl)
theorem q53_28g4 : gd q53_28 4 = some 23 := by kernel_rfl
theorem n53_28s : codeB Try.prog E ⟨f, 30, b, ro⟩ n53_28 st = plainS (runOps Try.prog E b q53_28 (ops [true, true, true, false, true, false, false, true, true, false, false, true, false] Try.f53) st) := GE.region_step (id := 7) (GE.reg_of (by kernel_rfl)) (by kernel_rfl)
theorem n53_31s : codeB Try.prog E ⟨f, 30, b, ro⟩ n53_31 st = plainS (runOps Try.prog E b q53_31 (ops [true, true, true, false, true, false, false, true, true, false, false, true, true, false, false] Try.f53) st) := GE.region_step (id := 8) (GE.reg_of (by kernel_rfl)) (by kernel_rfl)
theorem n53_32s : codeB Try.prog LL ⟨53, 30, b, ro⟩ n53_32 st = normS b ⟨[6], []⟩ .ret st := GE.ret_step (by kernel_rfl) (by kernel_rfl)
theorem n53_30s : codeB Try.prog E cx n53_30 st = thenS (codeB Try.prog E cx n53_31 st) (codeB Try.prog E cx n53_32) := GE.seq_step (by kernel_rfl)
theorem n53_33s : codeB Try.prog E cx n53_33 st = some (.normal, st) := GE.skip_step (by kernel_rfl)
theorem n53_29s : codeB Try.prog E cx n53_29 st = condS (codeB Try.prog E cx n53_30) (codeB Try.prog E cx n53_33) (lk st.σ 28) st := GE.cond_step (c := .tmp 28) (by kernel_rfl)
theorem n53_27s : codeB Try.prog E cx n53_27 st = thenS (codeB Try.prog E cx n53_28 st) (codeB Try.prog E cx n53_29) := GE.seq_step (by kernel_rfl)
theorem n53_25s : codeB Try.prog E cx n53_25 st = thenS (codeB Try.prog E cx n53_26 st) (codeB Try.prog E cx n53_27) := GE.seq_step (by kernel_rfl)
theorem n53_24s : codeB Try.prog E cx n53_24 st = blockS 1 (codeB Try.prog E cx n53_25 st) st := GE.block_step (by kernel_rfl)
theorem n53_34s : codeB Try.prog E ⟨f, 30, b, ro⟩ n53_34 st = plainS (runOps Try.prog E b q53_34 (ops [true, true, true, false, true, false, false, true, true, true] Try.f53) st) := GE.region_step (id := 9) (GE.reg_of (by kernel_rfl)) (by kernel_rfl)
theorem n53_23s : codeB Try.prog E cx n53_23 st = thenS (codeB Try.prog E cx n53_24 st) (codeB Try.prog E cx n53_34) := GE.seq_step (by kernel_rfl)
theorem n53_19s : codeB Try.prog E cx n53_19 st = thenS (codeB Try.prog E cx n53_20 st) (codeB Try.prog E cx n53_23) := GE.seq_step (by kernel_rfl)
theorem n53_17s : codeB Try.prog E cx n53_17 st = thenS (codeB Try.prog E cx n53_18 st) (codeB Try.prog E cx n53_19) := GE.seq_step (by kernel_rfl)
theorem n53_16k : LL.kp (⟨53, 30, b, ro⟩ : Cx).fn (4 * rid n53_17 + 3) = some ⟨[1, 2, 7, 15, 16], []⟩ := by kernel_rfl
theorem n53_16s : codeB Try.prog LL ⟨53, 30, b, ro⟩ n53_16 st = headS b ⟨[1, 2, 7, 15, 16], []⟩ st (lpB Try.prog LL ⟨53, 30, b, ro⟩ n53_16 n53_17) := GE.lpB_step (by kernel_rfl) (n53_16k b ro)
theorem n53_16g : LL.code ⟨53, 30, b, ro⟩ n53_16 st = headS b ⟨[1, 2, 7, 15, 16], []⟩ st (lpB Try.prog LL ⟨53, 30, b, ro⟩ n53_16 n53_17) := GE.lpB_again (by kernel_rfl) (n53_16k b ro)
theorem n53_15s : codeB Try.prog E cx n53_15 st = blockS 0 (codeB Try.prog E cx n53_16 st) st := GE.block_step (by kernel_rfl)
theorem n53_13s : codeB Try.prog E cx n53_13 st = thenS (codeB Try.prog E cx n53_14 st) (codeB Try.prog E cx n53_15) := GE.seq_step (by kernel_rfl)
theorem n53_36s : codeB Try.prog E ⟨f, 30, b, ro⟩ n53_36 st = plainS (runOps Try.prog E b q53_36 (ops [true, true, true, true, false] Try.f53) st) := GE.region_step (id := 10) (GE.reg_of (by kernel_rfl)) (by kernel_rfl)
theorem n53_37s : codeB Try.prog LL ⟨53, 30, b, ro⟩ n53_37 st = normS b ⟨[6], []⟩ .ret st := GE.ret_step (by kernel_rfl) (by kernel_rfl)
theorem n53_35s : codeB Try.prog E cx n53_35 st = thenS (codeB Try.prog E cx n53_36 st) (codeB Try.prog E cx n53_37) := GE.seq_step (by kernel_rfl)
theorem n53_12s : codeB Try.prog E cx n53_12 st = thenS (codeB Try.prog E cx n53_13 st) (codeB Try.prog E cx n53_35) := GE.seq_step (by kernel_rfl)
theorem n53_10s : codeB Try.prog E cx n53_10 st = thenS (codeB Try.prog E cx n53_11 st) (codeB Try.prog E cx n53_12) := GE.seq_step (by kernel_rfl)
theorem n53_2s : codeB Try.prog E cx n53_2 st = thenS (codeB Try.prog E cx n53_3 st) (codeB Try.prog E cx n53_10) := GE.seq_step (by kernel_rfl)
theorem n53_0s : codeB Try.prog E cx n53_0 st = thenS (codeB Try.prog E cx n53_1 st) (codeB Try.prog E cx n53_2) := GE.seq_step (by kernel_rfl)
noncomputable def n56_0 : Code := bodyOf Try.f56
noncomputable def n56_1 : Code := cl n56_0
noncomputable def q56_1 : List Oper := opsOf n56_1
noncomputable def n56_2 : Code := cr n56_0
noncomputable def n56_3 : Code := cl n56_2
noncomputable def q56_3 : List Oper := opsOf n56_3
noncomputable def n56_4 : Code := cr n56_2
noncomputable def n56_5 : Code := cl n56_4
noncomputable def n56_6 : Code := cl n56_5
noncomputable def q56_6 : List Oper := opsOf n56_6
noncomputable def n56_7 : Code := cr n56_5
noncomputable def n56_8 : Code := cl n56_7
noncomputable def n56_9 : Code := cl n56_8
noncomputable def n56_10 : Code := cl n56_9
noncomputable def q56_10 : List Oper := opsOf n56_10
noncomputable def n56_11 : Code := cr n56_9
noncomputable def n56_12 : Code := cl n56_11
noncomputable def n56_13 : Code := cl n56_12
noncomputable def n56_14 : Code := cr n56_12
noncomputable def n56_15 : Code := cr n56_11
noncomputable def n56_16 : Code := cl n56_15
noncomputable def n56_17 : Code := cl n56_16
noncomputable def n56_18 : Code := cl n56_17
noncomputable def q56_18 : List Oper := opsOf n56_18
noncomputable def n56_19 : Code := cr n56_17
noncomputable def n56_20 : Code := cl n56_19
noncomputable def n56_21 : Code := cl n56_20
noncomputable def q56_21 : List Oper := opsOf n56_21
noncomputable def n56_22 : Code := cr n56_20
noncomputable def n56_23 : Code := cl n56_22
noncomputable def q56_23 : List Oper := opsOf n56_23
noncomputable def n56_24 : Code := cr n56_22
noncomputable def n56_25 : Code := cr n56_19
noncomputable def n56_26 : Code := cl n56_25
noncomputable def q56_26 : List Oper := opsOf n56_26
noncomputable def n56_27 : Code := cr n56_25
noncomputable def n56_28 : Code := cl n56_27
noncomputable def q56_28 : List Oper := opsOf n56_28
noncomputable def n56_29 : Code := cr n56_27
noncomputable def n56_30 : Code := cr n56_15
noncomputable def q56_30 : List Oper := opsOf n56_30
noncomputable def n56_31 : Code := cr n56_4
noncomputable def n56_32 : Code := cl n56_31
noncomputable def q56_32 : List Oper := opsOf n56_32
noncomputable def n56_33 : Code := cr n56_31
theorem body56 : Try.f56.body = some n56_0 := by kernel_rfl
theorem run56 (E : Ev) (args : List Value) (h : List Blk) (hl : args.length ≤ 33) : runB Try.prog E 56 args h = endS Try.prog [.cell 4 55] h.length (codeB Try.prog E ⟨56, 33, h.length, none⟩ n56_0 ⟨enumT 0 args, h, []⟩) := GE.run_step Try.func56 body56 (by kernel_rfl) (by decide) (by kernel_rfl) hl
theorem n56_1s : codeB Try.prog E ⟨f, 33, b, ro⟩ n56_1 st = plainS (runOps Try.prog E b q56_1 (ops [false] Try.f56) st) := GE.region_step (id := 0) (GE.reg_of (by kernel_rfl)) (by kernel_rfl)
theorem n56_3s : codeB Try.prog E ⟨f, 33, b, ro⟩ n56_3 st = plainS (runOps Try.prog E b q56_3 (ops [true, false] Try.f56) st) := GE.region_step (id := 1) (GE.reg_of (by kernel_rfl)) (by kernel_rfl)
theorem n56_6s : codeB Try.prog E ⟨f, 33, b, ro⟩ n56_6 st = plainS (runOps Try.prog E b q56_6 (ops [true, true, false, false] Try.f56) st) := GE.region_step (id := 2) (GE.reg_of (by kernel_rfl)) (by kernel_rfl)
theorem n56_10s : codeB Try.prog E ⟨f, 33, b, ro⟩ n56_10 st = plainS (runOps Try.prog E b q56_10 (ops [true, true, false, true, false, false, false] Try.f56) st) := GE.region_step (id := 3) (GE.reg_of (by kernel_rfl)) (by kernel_rfl)
theorem n56_13s : codeB Try.prog E cx n56_13 st = some (.normal, st) := GE.skip_step (by kernel_rfl)
theorem n56_14s : codeB Try.prog LL ⟨56, 33, b, ro⟩ n56_14 st = normS b ⟨[4, 5], []⟩ (.exit 0) st := GE.exit_step (by kernel_rfl) (by kernel_rfl)
theorem n56_12s : codeB Try.prog E cx n56_12 st = condS (codeB Try.prog E cx n56_13) (codeB Try.prog E cx n56_14) (lk st.σ 13) st := GE.cond_step (c := .tmp 13) (by kernel_rfl)
theorem n56_18s : codeB Try.prog E ⟨f, 33, b, ro⟩ n56_18 st = plainS (runOps Try.prog E b q56_18 (ops [true, true, false, true, false, false, true, true, false, false, false] Try.f56) st) := GE.region_step (id := 4) (GE.reg_of (by kernel_rfl)) (by kernel_rfl)
theorem n56_21s : codeB Try.prog E ⟨f, 33, b, ro⟩ n56_21 st = plainS (runOps Try.prog E b q56_21 (ops [true, true, false, true, false, false, true, true, false, false, true, false, false] Try.f56) st) := GE.region_step (id := 5) (GE.reg_of (by kernel_rfl)) (by kernel_rfl)
theorem n56_23s : codeB Try.prog E ⟨f, 33, b, ro⟩ n56_23 st = plainS (runOps Try.prog E b q56_23 (ops [true, true, false, true, false, false, true, true, false, false, true, false, true, false] Try.f56) st) := GE.region_step (id := 6) (GE.reg_of (by kernel_rfl)) (by kernel_rfl)
theorem n56_24s : codeB Try.prog E cx n56_24 st = some (.normal, st) := GE.skip_step (by kernel_rfl)
theorem n56_22s : codeB Try.prog E cx n56_22 st = condS (codeB Try.prog E cx n56_23) (codeB Try.prog E cx n56_24) (lk st.σ 18) st := GE.cond_step (c := .tmp 18) (by kernel_rfl)
theorem n56_20s : codeB Try.prog E cx n56_20 st = thenS (codeB Try.prog E cx n56_21 st) (codeB Try.prog E cx n56_22) := GE.seq_step (by kernel_rfl)
theorem n56_26s : codeB Try.prog E ⟨f, 33, b, ro⟩ n56_26 st = plainS (runOps Try.prog E b q56_26 (ops [true, true, false, true, false, false, true, true, false, false, true, true, false] Try.f56) st) := GE.region_step (id := 7) (GE.reg_of (by kernel_rfl)) (by kernel_rfl)
theorem n56_28s : codeB Try.prog E ⟨f, 33, b, ro⟩ n56_28 st = plainS (runOps Try.prog E b q56_28 (ops [true, true, false, true, false, false, true, true, false, false, true, true, true, false] Try.f56) st) := GE.region_step (id := 8) (GE.reg_of (by kernel_rfl)) (by kernel_rfl)
theorem n56_29s : codeB Try.prog E cx n56_29 st = some (.normal, st) := GE.skip_step (by kernel_rfl)
theorem n56_27s : codeB Try.prog E cx n56_27 st = condS (codeB Try.prog E cx n56_28) (codeB Try.prog E cx n56_29) (lk st.σ 26) st := GE.cond_step (c := .tmp 26) (by kernel_rfl)
theorem n56_25s : codeB Try.prog E cx n56_25 st = thenS (codeB Try.prog E cx n56_26 st) (codeB Try.prog E cx n56_27) := GE.seq_step (by kernel_rfl)
theorem n56_19s : codeB Try.prog E cx n56_19 st = thenS (codeB Try.prog E cx n56_20 st) (codeB Try.prog E cx n56_25) := GE.seq_step (by kernel_rfl)
theorem n56_17s : codeB Try.prog E cx n56_17 st = thenS (codeB Try.prog E cx n56_18 st) (codeB Try.prog E cx n56_19) := GE.seq_step (by kernel_rfl)
theorem n56_16s : codeB Try.prog E cx n56_16 st = blockS 1 (codeB Try.prog E cx n56_17 st) st := GE.block_step (by kernel_rfl)
theorem n56_30s : codeB Try.prog E ⟨f, 33, b, ro⟩ n56_30 st = plainS (runOps Try.prog E b q56_30 (ops [true, true, false, true, false, false, true, true, true] Try.f56) st) := GE.region_step (id := 9) (GE.reg_of (by kernel_rfl)) (by kernel_rfl)
theorem n56_15s : codeB Try.prog E cx n56_15 st = thenS (codeB Try.prog E cx n56_16 st) (codeB Try.prog E cx n56_30) := GE.seq_step (by kernel_rfl)
theorem n56_11s : codeB Try.prog E cx n56_11 st = thenS (codeB Try.prog E cx n56_12 st) (codeB Try.prog E cx n56_15) := GE.seq_step (by kernel_rfl)
theorem n56_9s : codeB Try.prog E cx n56_9 st = thenS (codeB Try.prog E cx n56_10 st) (codeB Try.prog E cx n56_11) := GE.seq_step (by kernel_rfl)
theorem n56_8k : LL.kp (⟨56, 33, b, ro⟩ : Cx).fn (4 * rid n56_9 + 3) = some ⟨[0, 1, 4, 5, 11, 12], [⟨0, 0, 2, true⟩]⟩ := by kernel_rfl
theorem n56_8s : codeB Try.prog LL ⟨56, 33, b, ro⟩ n56_8 st = headS b ⟨[0, 1, 4, 5, 11, 12], [⟨0, 0, 2, true⟩]⟩ st (lpB Try.prog LL ⟨56, 33, b, ro⟩ n56_8 n56_9) := GE.lpB_step (by kernel_rfl) (n56_8k b ro)
theorem n56_8g : LL.code ⟨56, 33, b, ro⟩ n56_8 st = headS b ⟨[0, 1, 4, 5, 11, 12], [⟨0, 0, 2, true⟩]⟩ st (lpB Try.prog LL ⟨56, 33, b, ro⟩ n56_8 n56_9) := GE.lpB_again (by kernel_rfl) (n56_8k b ro)
theorem n56_7s : codeB Try.prog E cx n56_7 st = blockS 0 (codeB Try.prog E cx n56_8 st) st := GE.block_step (by kernel_rfl)
theorem n56_5s : codeB Try.prog E cx n56_5 st = thenS (codeB Try.prog E cx n56_6 st) (codeB Try.prog E cx n56_7) := GE.seq_step (by kernel_rfl)
theorem n56_32s : codeB Try.prog E ⟨f, 33, b, ro⟩ n56_32 st = plainS (runOps Try.prog E b q56_32 (ops [true, true, true, false] Try.f56) st) := GE.region_step (id := 10) (GE.reg_of (by kernel_rfl)) (by kernel_rfl)
theorem n56_33s : codeB Try.prog LL ⟨56, 33, b, ro⟩ n56_33 st = normS b ⟨[4], []⟩ .ret st := GE.ret_step (by kernel_rfl) (by kernel_rfl)
theorem n56_31s : codeB Try.prog E cx n56_31 st = thenS (codeB Try.prog E cx n56_32 st) (codeB Try.prog E cx n56_33) := GE.seq_step (by kernel_rfl)
theorem n56_4s : codeB Try.prog E cx n56_4 st = thenS (codeB Try.prog E cx n56_5 st) (codeB Try.prog E cx n56_31) := GE.seq_step (by kernel_rfl)
theorem n56_2s : codeB Try.prog E cx n56_2 st = thenS (codeB Try.prog E cx n56_3 st) (codeB Try.prog E cx n56_4) := GE.seq_step (by kernel_rfl)
theorem n56_0s : codeB Try.prog E cx n56_0 st = thenS (codeB Try.prog E cx n56_1 st) (codeB Try.prog E cx n56_2) := GE.seq_step (by kernel_rfl)
noncomputable def n57_0 : Code := bodyOf Try.f57
noncomputable def n57_1 : Code := cl n57_0
noncomputable def q57_1 : List Oper := opsOf n57_1
noncomputable def n57_2 : Code := cr n57_0
noncomputable def n57_3 : Code := cl n57_2
noncomputable def q57_3 : List Oper := opsOf n57_3
noncomputable def n57_4 : Code := cr n57_2
theorem body57 : Try.f57.body = some n57_0 := by kernel_rfl
theorem run57 (E : Ev) (args : List Value) (h : List Blk) (hl : args.length ≤ 15) : runB Try.prog E 57 args h = endS Try.prog [.tmp 6] h.length (codeB Try.prog E ⟨57, 15, h.length, none⟩ n57_0 ⟨enumT 0 args, h, []⟩) := GE.run_step Try.func57 body57 (by kernel_rfl) (by decide) (by kernel_rfl) hl
theorem n57_1s : codeB Try.prog E ⟨f, 15, b, ro⟩ n57_1 st = plainS (runOps Try.prog E b q57_1 (ops [false] Try.f57) st) := GE.region_step (id := 0) (GE.reg_of (by kernel_rfl)) (by kernel_rfl)
theorem q57_3g3 : gd q57_3 3 = some 10 := by kernel_rfl
theorem n57_3s : codeB Try.prog E ⟨f, 15, b, ro⟩ n57_3 st = plainS (runOps Try.prog E b q57_3 (ops [true, false] Try.f57) st) := GE.region_step (id := 1) (GE.reg_of (by kernel_rfl)) (by kernel_rfl)
theorem n57_4s : codeB Try.prog LL ⟨57, 15, b, ro⟩ n57_4 st = normS b ⟨[6], []⟩ .ret st := GE.ret_step (by kernel_rfl) (by kernel_rfl)
theorem n57_2s : codeB Try.prog E cx n57_2 st = thenS (codeB Try.prog E cx n57_3 st) (codeB Try.prog E cx n57_4) := GE.seq_step (by kernel_rfl)
theorem n57_0s : codeB Try.prog E cx n57_0 st = thenS (codeB Try.prog E cx n57_1 st) (codeB Try.prog E cx n57_2) := GE.seq_step (by kernel_rfl)
noncomputable def n59_0 : Code := bodyOf Try.f59
noncomputable def n59_1 : Code := cl n59_0
noncomputable def q59_1 : List Oper := opsOf n59_1
noncomputable def n59_2 : Code := cr n59_0
noncomputable def n59_3 : Code := cl n59_2
noncomputable def q59_3 : List Oper := opsOf n59_3
noncomputable def n59_4 : Code := cr n59_2
noncomputable def n59_5 : Code := cl n59_4
noncomputable def n59_6 : Code := cl n59_5
noncomputable def n59_7 : Code := cl n59_6
noncomputable def q59_7 : List Oper := opsOf n59_7
noncomputable def n59_8 : Code := cr n59_6
noncomputable def n59_9 : Code := cl n59_8
noncomputable def n59_10 : Code := cl n59_9
noncomputable def q59_10 : List Oper := opsOf n59_10
noncomputable def n59_11 : Code := cr n59_9
noncomputable def n59_12 : Code := cr n59_8
noncomputable def n59_13 : Code := cl n59_12
noncomputable def q59_13 : List Oper := opsOf n59_13
noncomputable def n59_14 : Code := cr n59_12
noncomputable def n59_15 : Code := cl n59_14
noncomputable def n59_16 : Code := cl n59_15
noncomputable def q59_16 : List Oper := opsOf n59_16
noncomputable def n59_17 : Code := cr n59_15
noncomputable def n59_18 : Code := cr n59_14
noncomputable def n59_19 : Code := cr n59_4
noncomputable def n59_20 : Code := cl n59_19
noncomputable def q59_20 : List Oper := opsOf n59_20
noncomputable def n59_21 : Code := cr n59_19
theorem body59 : Try.f59.body = some n59_0 := by kernel_rfl
theorem run59 (E : Ev) (args : List Value) (h : List Blk) (hl : args.length ≤ 17) : runB Try.prog E 59 args h = endS Try.prog [.tmp 2, .tmp 3] h.length (codeB Try.prog E ⟨59, 17, h.length, none⟩ n59_0 ⟨enumT 0 args, h, []⟩) := GE.run_step Try.func59 body59 (by kernel_rfl) (by decide) (by kernel_rfl) hl
theorem n59_1s : codeB Try.prog E ⟨f, 17, b, ro⟩ n59_1 st = plainS (runOps Try.prog E b q59_1 (ops [false] Try.f59) st) := GE.region_step (id := 0) (GE.reg_of (by kernel_rfl)) (by kernel_rfl)
theorem n59_3s : codeB Try.prog E ⟨f, 17, b, ro⟩ n59_3 st = plainS (runOps Try.prog E b q59_3 (ops [true, false] Try.f59) st) := GE.region_step (id := 1) (GE.reg_of (by kernel_rfl)) (by kernel_rfl)
theorem n59_7s : codeB Try.prog E ⟨f, 17, b, ro⟩ n59_7 st = plainS (runOps Try.prog E b q59_7 (ops [true, true, false, false, false] Try.f59) st) := GE.region_step (id := 2) (GE.reg_of (by kernel_rfl)) (by kernel_rfl)
theorem n59_10s : codeB Try.prog E ⟨f, 17, b, ro⟩ n59_10 st = plainS (runOps Try.prog E b q59_10 (ops [true, true, false, false, true, false, false] Try.f59) st) := GE.region_step (id := 3) (GE.reg_of (by kernel_rfl)) (by kernel_rfl)
theorem n59_11s : codeB Try.prog LL ⟨59, 17, b, ro⟩ n59_11 st = normS b ⟨[2, 3], []⟩ .ret st := GE.ret_step (by kernel_rfl) (by kernel_rfl)
theorem n59_9s : codeB Try.prog E cx n59_9 st = thenS (codeB Try.prog E cx n59_10 st) (codeB Try.prog E cx n59_11) := GE.seq_step (by kernel_rfl)
theorem n59_13s : codeB Try.prog E ⟨f, 17, b, ro⟩ n59_13 st = plainS (runOps Try.prog E b q59_13 (ops [true, true, false, false, true, true, false] Try.f59) st) := GE.region_step (id := 4) (GE.reg_of (by kernel_rfl)) (by kernel_rfl)
theorem n59_16s : codeB Try.prog E ⟨f, 17, b, ro⟩ n59_16 st = plainS (runOps Try.prog E b q59_16 (ops [true, true, false, false, true, true, true, false, false] Try.f59) st) := GE.region_step (id := 5) (GE.reg_of (by kernel_rfl)) (by kernel_rfl)
theorem n59_17s : codeB Try.prog LL ⟨59, 17, b, ro⟩ n59_17 st = normS b ⟨[2, 3], []⟩ .ret st := GE.ret_step (by kernel_rfl) (by kernel_rfl)
theorem n59_15s : codeB Try.prog E cx n59_15 st = thenS (codeB Try.prog E cx n59_16 st) (codeB Try.prog E cx n59_17) := GE.seq_step (by kernel_rfl)
theorem n59_18s : codeB Try.prog E cx n59_18 st = some (.normal, st) := GE.skip_step (by kernel_rfl)
theorem n59_14s : codeB Try.prog E cx n59_14 st = condS (codeB Try.prog E cx n59_15) (codeB Try.prog E cx n59_18) (lk st.σ 11) st := GE.cond_step (c := .tmp 11) (by kernel_rfl)
theorem n59_12s : codeB Try.prog E cx n59_12 st = thenS (codeB Try.prog E cx n59_13 st) (codeB Try.prog E cx n59_14) := GE.seq_step (by kernel_rfl)
theorem n59_8s : codeB Try.prog E cx n59_8 st = condS (codeB Try.prog E cx n59_9) (codeB Try.prog E cx n59_12) (lk st.σ 7) st := GE.cond_step (c := .tmp 7) (by kernel_rfl)
theorem n59_6s : codeB Try.prog E cx n59_6 st = thenS (codeB Try.prog E cx n59_7 st) (codeB Try.prog E cx n59_8) := GE.seq_step (by kernel_rfl)
theorem n59_5s : codeB Try.prog E cx n59_5 st = blockS 0 (codeB Try.prog E cx n59_6 st) st := GE.block_step (by kernel_rfl)
theorem n59_20s : codeB Try.prog E ⟨f, 17, b, ro⟩ n59_20 st = plainS (runOps Try.prog E b q59_20 (ops [true, true, true, false] Try.f59) st) := GE.region_step (id := 6) (GE.reg_of (by kernel_rfl)) (by kernel_rfl)
theorem n59_21s : codeB Try.prog LL ⟨59, 17, b, ro⟩ n59_21 st = normS b ⟨[2, 3], []⟩ .ret st := GE.ret_step (by kernel_rfl) (by kernel_rfl)
theorem n59_19s : codeB Try.prog E cx n59_19 st = thenS (codeB Try.prog E cx n59_20 st) (codeB Try.prog E cx n59_21) := GE.seq_step (by kernel_rfl)
theorem n59_4s : codeB Try.prog E cx n59_4 st = thenS (codeB Try.prog E cx n59_5 st) (codeB Try.prog E cx n59_19) := GE.seq_step (by kernel_rfl)
theorem n59_2s : codeB Try.prog E cx n59_2 st = thenS (codeB Try.prog E cx n59_3 st) (codeB Try.prog E cx n59_4) := GE.seq_step (by kernel_rfl)
theorem n59_0s : codeB Try.prog E cx n59_0 st = thenS (codeB Try.prog E cx n59_1 st) (codeB Try.prog E cx n59_2) := GE.seq_step (by kernel_rfl)
noncomputable def n60_0 : Code := bodyOf Try.f60
noncomputable def n60_1 : Code := cl n60_0
noncomputable def q60_1 : List Oper := opsOf n60_1
noncomputable def n60_2 : Code := cr n60_0
noncomputable def n60_3 : Code := cl n60_2
noncomputable def q60_3 : List Oper := opsOf n60_3
noncomputable def n60_4 : Code := cr n60_2
noncomputable def n60_5 : Code := cl n60_4
noncomputable def n60_6 : Code := cl n60_5
noncomputable def q60_6 : List Oper := opsOf n60_6
noncomputable def n60_7 : Code := cr n60_5
noncomputable def n60_8 : Code := cl n60_7
noncomputable def n60_9 : Code := cl n60_8
noncomputable def q60_9 : List Oper := opsOf n60_9
noncomputable def n60_10 : Code := cr n60_8
noncomputable def q60_10 : List Oper := opsOf n60_10
noncomputable def n60_11 : Code := cr n60_7
noncomputable def n60_12 : Code := cr n60_4
noncomputable def n60_13 : Code := cl n60_12
noncomputable def q60_13 : List Oper := opsOf n60_13
noncomputable def n60_14 : Code := cr n60_12
theorem body60 : Try.f60.body = some n60_0 := by kernel_rfl
theorem run60 (E : Ev) (args : List Value) (h : List Blk) (hl : args.length ≤ 31) : runB Try.prog E 60 args h = endS Try.prog [.tmp 4] h.length (codeB Try.prog E ⟨60, 31, h.length, none⟩ n60_0 ⟨enumT 0 args, h, []⟩) := GE.run_step Try.func60 body60 (by kernel_rfl) (by decide) (by kernel_rfl) hl
theorem n60_1s : codeB Try.prog E ⟨f, 31, b, ro⟩ n60_1 st = plainS (runOps Try.prog E b q60_1 (ops [false] Try.f60) st) := GE.region_step (id := 0) (GE.reg_of (by kernel_rfl)) (by kernel_rfl)
theorem n60_3s : codeB Try.prog E ⟨f, 31, b, ro⟩ n60_3 st = plainS (runOps Try.prog E b q60_3 (ops [true, false] Try.f60) st) := GE.region_step (id := 1) (GE.reg_of (by kernel_rfl)) (by kernel_rfl)
theorem n60_6s : codeB Try.prog E ⟨f, 31, b, ro⟩ n60_6 st = plainS (runOps Try.prog E b q60_6 (ops [true, true, false, false] Try.f60) st) := GE.region_step (id := 2) (GE.reg_of (by kernel_rfl)) (by kernel_rfl)
theorem n60_9s : codeB Try.prog E ⟨f, 31, b, ro⟩ n60_9 st = plainS (runOps Try.prog E b q60_9 (ops [true, true, false, true, false, false] Try.f60) st) := GE.region_step (id := 3) (GE.reg_of (by kernel_rfl)) (by kernel_rfl)
theorem n60_10s : codeB Try.prog E ⟨f, 31, b, ro⟩ n60_10 st = plainS (runOps Try.prog E b q60_10 (ops [true, true, false, true, false, true] Try.f60) st) := GE.region_step (id := 4) (GE.reg_of (by kernel_rfl)) (by kernel_rfl)
theorem n60_8s : codeB Try.prog E cx n60_8 st = thenS (codeB Try.prog E cx n60_9 st) (codeB Try.prog E cx n60_10) := GE.seq_step (by kernel_rfl)
theorem n60_11s : codeB Try.prog E cx n60_11 st = some (.normal, st) := GE.skip_step (by kernel_rfl)
theorem n60_7s : codeB Try.prog E cx n60_7 st = condS (codeB Try.prog E cx n60_8) (codeB Try.prog E cx n60_11) (lk st.σ 17) st := GE.cond_step (c := .tmp 17) (by kernel_rfl)
theorem n60_5s : codeB Try.prog E cx n60_5 st = thenS (codeB Try.prog E cx n60_6 st) (codeB Try.prog E cx n60_7) := GE.seq_step (by kernel_rfl)
theorem n60_13s : codeB Try.prog E ⟨f, 31, b, ro⟩ n60_13 st = plainS (runOps Try.prog E b q60_13 (ops [true, true, true, false] Try.f60) st) := GE.region_step (id := 5) (GE.reg_of (by kernel_rfl)) (by kernel_rfl)
theorem n60_14s : codeB Try.prog LL ⟨60, 31, b, ro⟩ n60_14 st = normS b ⟨[4], []⟩ .ret st := GE.ret_step (by kernel_rfl) (by kernel_rfl)
theorem n60_12s : codeB Try.prog E cx n60_12 st = thenS (codeB Try.prog E cx n60_13 st) (codeB Try.prog E cx n60_14) := GE.seq_step (by kernel_rfl)
theorem n60_4s : codeB Try.prog E cx n60_4 st = thenS (codeB Try.prog E cx n60_5 st) (codeB Try.prog E cx n60_12) := GE.seq_step (by kernel_rfl)
theorem n60_2s : codeB Try.prog E cx n60_2 st = thenS (codeB Try.prog E cx n60_3 st) (codeB Try.prog E cx n60_4) := GE.seq_step (by kernel_rfl)
theorem n60_0s : codeB Try.prog E cx n60_0 st = thenS (codeB Try.prog E cx n60_1 st) (codeB Try.prog E cx n60_2) := GE.seq_step (by kernel_rfl)
noncomputable def n64_0 : Code := bodyOf Try.f64
noncomputable def n64_1 : Code := cl n64_0
noncomputable def q64_1 : List Oper := opsOf n64_1
noncomputable def n64_2 : Code := cr n64_0
noncomputable def n64_3 : Code := cl n64_2
noncomputable def q64_3 : List Oper := opsOf n64_3
noncomputable def n64_4 : Code := cr n64_2
noncomputable def n64_5 : Code := cl n64_4
noncomputable def n64_6 : Code := cl n64_5
noncomputable def q64_6 : List Oper := opsOf n64_6
noncomputable def n64_7 : Code := cr n64_5
noncomputable def n64_8 : Code := cl n64_7
noncomputable def n64_9 : Code := cl n64_8
noncomputable def n64_10 : Code := cl n64_9
noncomputable def q64_10 : List Oper := opsOf n64_10
noncomputable def n64_11 : Code := cr n64_9
noncomputable def n64_12 : Code := cl n64_11
noncomputable def n64_13 : Code := cl n64_12
noncomputable def n64_14 : Code := cr n64_12
noncomputable def n64_15 : Code := cr n64_11
noncomputable def n64_16 : Code := cl n64_15
noncomputable def n64_17 : Code := cl n64_16
noncomputable def n64_18 : Code := cl n64_17
noncomputable def q64_18 : List Oper := opsOf n64_18
noncomputable def n64_19 : Code := cr n64_17
noncomputable def n64_20 : Code := cl n64_19
noncomputable def q64_20 : List Oper := opsOf n64_20
noncomputable def n64_21 : Code := cr n64_19
noncomputable def n64_22 : Code := cl n64_21
noncomputable def q64_22 : List Oper := opsOf n64_22
noncomputable def n64_23 : Code := cr n64_21
noncomputable def n64_24 : Code := cr n64_15
noncomputable def q64_24 : List Oper := opsOf n64_24
noncomputable def n64_25 : Code := cr n64_4
noncomputable def n64_26 : Code := cl n64_25
noncomputable def q64_26 : List Oper := opsOf n64_26
noncomputable def n64_27 : Code := cr n64_25
theorem body64 : Try.f64.body = some n64_0 := by kernel_rfl
theorem run64 (E : Ev) (args : List Value) (h : List Blk) (hl : args.length ≤ 35) : runB Try.prog E 64 args h = endS Try.prog [.tmp 4] h.length (codeB Try.prog E ⟨64, 35, h.length, none⟩ n64_0 ⟨enumT 0 args, h, []⟩) := GE.run_step Try.func64 body64 (by kernel_rfl) (by decide) (by kernel_rfl) hl
theorem n64_1s : codeB Try.prog E ⟨f, 35, b, ro⟩ n64_1 st = plainS (runOps Try.prog E b q64_1 (ops [false] Try.f64) st) := GE.region_step (id := 0) (GE.reg_of (by kernel_rfl)) (by kernel_rfl)
theorem n64_3s : codeB Try.prog E ⟨f, 35, b, ro⟩ n64_3 st = plainS (runOps Try.prog E b q64_3 (ops [true, false] Try.f64) st) := GE.region_step (id := 1) (GE.reg_of (by kernel_rfl)) (by kernel_rfl)
theorem n64_6s : codeB Try.prog E ⟨f, 35, b, ro⟩ n64_6 st = plainS (runOps Try.prog E b q64_6 (ops [true, true, false, false] Try.f64) st) := GE.region_step (id := 2) (GE.reg_of (by kernel_rfl)) (by kernel_rfl)
theorem n64_10s : codeB Try.prog E ⟨f, 35, b, ro⟩ n64_10 st = plainS (runOps Try.prog E b q64_10 (ops [true, true, false, true, false, false, false] Try.f64) st) := GE.region_step (id := 3) (GE.reg_of (by kernel_rfl)) (by kernel_rfl)
theorem n64_13s : codeB Try.prog E cx n64_13 st = some (.normal, st) := GE.skip_step (by kernel_rfl)
theorem n64_14s : codeB Try.prog LL ⟨64, 35, b, ro⟩ n64_14 st = normS b ⟨[5], [⟨5, 0, 1, true⟩]⟩ (.exit 0) st := GE.exit_step (by kernel_rfl) (by kernel_rfl)
theorem n64_12s : codeB Try.prog E cx n64_12 st = condS (codeB Try.prog E cx n64_13) (codeB Try.prog E cx n64_14) (lk st.σ 14) st := GE.cond_step (c := .tmp 14) (by kernel_rfl)
theorem n64_18s : codeB Try.prog E ⟨f, 35, b, ro⟩ n64_18 st = plainS (runOps Try.prog E b q64_18 (ops [true, true, false, true, false, false, true, true, false, false, false] Try.f64) st) := GE.region_step (id := 4) (GE.reg_of (by kernel_rfl)) (by kernel_rfl)
theorem q64_20g4 : gd q64_20 4 = some 20 := by kernel_rfl
theorem n64_20s : codeB Try.prog E ⟨f, 35, b, ro⟩ n64_20 st = plainS (runOps Try.prog E b q64_20 (ops [true, true, false, true, false, false, true, true, false, false, true, false] Try.f64) st) := GE.region_step (id := 5) (GE.reg_of (by kernel_rfl)) (by kernel_rfl)
theorem n64_22s : codeB Try.prog E ⟨f, 35, b, ro⟩ n64_22 st = plainS (runOps Try.prog E b q64_22 (ops [true, true, false, true, false, false, true, true, false, false, true, true, false] Try.f64) st) := GE.region_step (id := 6) (GE.reg_of (by kernel_rfl)) (by kernel_rfl)
theorem n64_23s : codeB Try.prog E cx n64_23 st = some (.normal, st) := GE.skip_step (by kernel_rfl)
theorem n64_21s : codeB Try.prog E cx n64_21 st = condS (codeB Try.prog E cx n64_22) (codeB Try.prog E cx n64_23) (lk st.σ 28) st := GE.cond_step (c := .tmp 28) (by kernel_rfl)
theorem n64_19s : codeB Try.prog E cx n64_19 st = thenS (codeB Try.prog E cx n64_20 st) (codeB Try.prog E cx n64_21) := GE.seq_step (by kernel_rfl)
theorem n64_17s : codeB Try.prog E cx n64_17 st = thenS (codeB Try.prog E cx n64_18 st) (codeB Try.prog E cx n64_19) := GE.seq_step (by kernel_rfl)
theorem n64_16s : codeB Try.prog E cx n64_16 st = blockS 1 (codeB Try.prog E cx n64_17 st) st := GE.block_step (by kernel_rfl)
theorem n64_24s : codeB Try.prog E ⟨f, 35, b, ro⟩ n64_24 st = plainS (runOps Try.prog E b q64_24 (ops [true, true, false, true, false, false, true, true, true] Try.f64) st) := GE.region_step (id := 7) (GE.reg_of (by kernel_rfl)) (by kernel_rfl)
theorem n64_15s : codeB Try.prog E cx n64_15 st = thenS (codeB Try.prog E cx n64_16 st) (codeB Try.prog E cx n64_24) := GE.seq_step (by kernel_rfl)
theorem n64_11s : codeB Try.prog E cx n64_11 st = thenS (codeB Try.prog E cx n64_12 st) (codeB Try.prog E cx n64_15) := GE.seq_step (by kernel_rfl)
theorem n64_9s : codeB Try.prog E cx n64_9 st = thenS (codeB Try.prog E cx n64_10 st) (codeB Try.prog E cx n64_11) := GE.seq_step (by kernel_rfl)
theorem n64_8k : LL.kp (⟨64, 35, b, ro⟩ : Cx).fn (4 * rid n64_9 + 3) = some ⟨[0, 1, 5, 12, 13], [⟨5, 0, 1, true⟩]⟩ := by kernel_rfl
theorem n64_8s : codeB Try.prog LL ⟨64, 35, b, ro⟩ n64_8 st = headS b ⟨[0, 1, 5, 12, 13], [⟨5, 0, 1, true⟩]⟩ st (lpB Try.prog LL ⟨64, 35, b, ro⟩ n64_8 n64_9) := GE.lpB_step (by kernel_rfl) (n64_8k b ro)
theorem n64_8g : LL.code ⟨64, 35, b, ro⟩ n64_8 st = headS b ⟨[0, 1, 5, 12, 13], [⟨5, 0, 1, true⟩]⟩ st (lpB Try.prog LL ⟨64, 35, b, ro⟩ n64_8 n64_9) := GE.lpB_again (by kernel_rfl) (n64_8k b ro)
theorem n64_7s : codeB Try.prog E cx n64_7 st = blockS 0 (codeB Try.prog E cx n64_8 st) st := GE.block_step (by kernel_rfl)
theorem n64_5s : codeB Try.prog E cx n64_5 st = thenS (codeB Try.prog E cx n64_6 st) (codeB Try.prog E cx n64_7) := GE.seq_step (by kernel_rfl)
theorem n64_26s : codeB Try.prog E ⟨f, 35, b, ro⟩ n64_26 st = plainS (runOps Try.prog E b q64_26 (ops [true, true, true, false] Try.f64) st) := GE.region_step (id := 8) (GE.reg_of (by kernel_rfl)) (by kernel_rfl)
theorem n64_27s : codeB Try.prog LL ⟨64, 35, b, ro⟩ n64_27 st = normS b ⟨[4], [⟨4, 0, 1, true⟩]⟩ .ret st := GE.ret_step (by kernel_rfl) (by kernel_rfl)
theorem n64_25s : codeB Try.prog E cx n64_25 st = thenS (codeB Try.prog E cx n64_26 st) (codeB Try.prog E cx n64_27) := GE.seq_step (by kernel_rfl)
theorem n64_4s : codeB Try.prog E cx n64_4 st = thenS (codeB Try.prog E cx n64_5 st) (codeB Try.prog E cx n64_25) := GE.seq_step (by kernel_rfl)
theorem n64_2s : codeB Try.prog E cx n64_2 st = thenS (codeB Try.prog E cx n64_3 st) (codeB Try.prog E cx n64_4) := GE.seq_step (by kernel_rfl)
theorem n64_0s : codeB Try.prog E cx n64_0 st = thenS (codeB Try.prog E cx n64_1 st) (codeB Try.prog E cx n64_2) := GE.seq_step (by kernel_rfl)
noncomputable def n69_0 : Code := bodyOf Try.f69
noncomputable def n69_1 : Code := cl n69_0
noncomputable def q69_1 : List Oper := opsOf n69_1
noncomputable def n69_2 : Code := cr n69_0
noncomputable def n69_3 : Code := cl n69_2
noncomputable def q69_3 : List Oper := opsOf n69_3
noncomputable def n69_4 : Code := cr n69_2
noncomputable def n69_5 : Code := cl n69_4
noncomputable def q69_5 : List Oper := opsOf n69_5
noncomputable def n69_6 : Code := cr n69_4
noncomputable def n69_7 : Code := cl n69_6
noncomputable def q69_7 : List Oper := opsOf n69_7
noncomputable def n69_8 : Code := cr n69_6
noncomputable def n69_9 : Code := cl n69_8
noncomputable def q69_9 : List Oper := opsOf n69_9
noncomputable def n69_10 : Code := cr n69_8
noncomputable def n69_11 : Code := cl n69_10
noncomputable def q69_11 : List Oper := opsOf n69_11
noncomputable def n69_12 : Code := cr n69_10
theorem body69 : Try.f69.body = some n69_0 := by kernel_rfl
theorem run69 (E : Ev) (args : List Value) (h : List Blk) (hl : args.length ≤ 32) : runB Try.prog E 69 args h = endS Try.prog [.tmp 4] h.length (codeB Try.prog E ⟨69, 32, h.length, none⟩ n69_0 ⟨enumT 0 args, h, []⟩) := GE.run_step Try.func69 body69 (by kernel_rfl) (by decide) (by kernel_rfl) hl
theorem n69_1s : codeB Try.prog E ⟨f, 32, b, ro⟩ n69_1 st = plainS (runOps Try.prog E b q69_1 (ops [false] Try.f69) st) := GE.region_step (id := 0) (GE.reg_of (by kernel_rfl)) (by kernel_rfl)
theorem n69_3s : codeB Try.prog E ⟨f, 32, b, ro⟩ n69_3 st = plainS (runOps Try.prog E b q69_3 (ops [true, false] Try.f69) st) := GE.region_step (id := 1) (GE.reg_of (by kernel_rfl)) (by kernel_rfl)
theorem n69_5s : codeB Try.prog E ⟨f, 32, b, ro⟩ n69_5 st = plainS (runOps Try.prog E b q69_5 (ops [true, true, false] Try.f69) st) := GE.region_step (id := 2) (GE.reg_of (by kernel_rfl)) (by kernel_rfl)
theorem n69_7s : codeB Try.prog E ⟨f, 32, b, ro⟩ n69_7 st = plainS (runOps Try.prog E b q69_7 (ops [true, true, true, false] Try.f69) st) := GE.region_step (id := 3) (GE.reg_of (by kernel_rfl)) (by kernel_rfl)
theorem n69_9s : codeB Try.prog E ⟨f, 32, b, ro⟩ n69_9 st = plainS (runOps Try.prog E b q69_9 (ops [true, true, true, true, false] Try.f69) st) := GE.region_step (id := 4) (GE.reg_of (by kernel_rfl)) (by kernel_rfl)
theorem n69_11s : codeB Try.prog E ⟨f, 32, b, ro⟩ n69_11 st = plainS (runOps Try.prog E b q69_11 (ops [true, true, true, true, true, false] Try.f69) st) := GE.region_step (id := 5) (GE.reg_of (by kernel_rfl)) (by kernel_rfl)
theorem n69_12s : codeB Try.prog LL ⟨69, 32, b, ro⟩ n69_12 st = normS b ⟨[4], []⟩ .ret st := GE.ret_step (by kernel_rfl) (by kernel_rfl)
theorem n69_10s : codeB Try.prog E cx n69_10 st = thenS (codeB Try.prog E cx n69_11 st) (codeB Try.prog E cx n69_12) := GE.seq_step (by kernel_rfl)
theorem n69_8s : codeB Try.prog E cx n69_8 st = thenS (codeB Try.prog E cx n69_9 st) (codeB Try.prog E cx n69_10) := GE.seq_step (by kernel_rfl)
theorem n69_6s : codeB Try.prog E cx n69_6 st = thenS (codeB Try.prog E cx n69_7 st) (codeB Try.prog E cx n69_8) := GE.seq_step (by kernel_rfl)
theorem n69_4s : codeB Try.prog E cx n69_4 st = thenS (codeB Try.prog E cx n69_5 st) (codeB Try.prog E cx n69_6) := GE.seq_step (by kernel_rfl)
theorem n69_2s : codeB Try.prog E cx n69_2 st = thenS (codeB Try.prog E cx n69_3 st) (codeB Try.prog E cx n69_4) := GE.seq_step (by kernel_rfl)
theorem n69_0s : codeB Try.prog E cx n69_0 st = thenS (codeB Try.prog E cx n69_1 st) (codeB Try.prog E cx n69_2) := GE.seq_step (by kernel_rfl)
noncomputable def n71_0 : Code := bodyOf Try.f71
noncomputable def n71_1 : Code := cl n71_0
noncomputable def q71_1 : List Oper := opsOf n71_1
noncomputable def n71_2 : Code := cr n71_0
noncomputable def n71_3 : Code := cl n71_2
noncomputable def q71_3 : List Oper := opsOf n71_3
noncomputable def n71_4 : Code := cr n71_2
theorem body71 : Try.f71.body = some n71_0 := by kernel_rfl
theorem run71 (E : Ev) (args : List Value) (h : List Blk) (hl : args.length ≤ 10) : runB Try.prog E 71 args h = endS Try.prog [.tmp 4] h.length (codeB Try.prog E ⟨71, 10, h.length, none⟩ n71_0 ⟨enumT 0 args, h, []⟩) := GE.run_step Try.func71 body71 (by kernel_rfl) (by decide) (by kernel_rfl) hl
theorem n71_1s : codeB Try.prog E ⟨f, 10, b, ro⟩ n71_1 st = plainS (runOps Try.prog E b q71_1 (ops [false] Try.f71) st) := GE.region_step (id := 0) (GE.reg_of (by kernel_rfl)) (by kernel_rfl)
theorem n71_3s : codeB Try.prog E ⟨f, 10, b, ro⟩ n71_3 st = plainS (runOps Try.prog E b q71_3 (ops [true, false] Try.f71) st) := GE.region_step (id := 1) (GE.reg_of (by kernel_rfl)) (by kernel_rfl)
theorem n71_4s : codeB Try.prog LL ⟨71, 10, b, ro⟩ n71_4 st = normS b ⟨[4], []⟩ .ret st := GE.ret_step (by kernel_rfl) (by kernel_rfl)
theorem n71_2s : codeB Try.prog E cx n71_2 st = thenS (codeB Try.prog E cx n71_3 st) (codeB Try.prog E cx n71_4) := GE.seq_step (by kernel_rfl)
theorem n71_0s : codeB Try.prog E cx n71_0 st = thenS (codeB Try.prog E cx n71_1 st) (codeB Try.prog E cx n71_2) := GE.seq_step (by kernel_rfl)
noncomputable def n74_0 : Code := bodyOf Try.f74
noncomputable def n74_1 : Code := cl n74_0
noncomputable def q74_1 : List Oper := opsOf n74_1
noncomputable def n74_2 : Code := cr n74_0
noncomputable def n74_3 : Code := cl n74_2
noncomputable def q74_3 : List Oper := opsOf n74_3
noncomputable def n74_4 : Code := cr n74_2
theorem body74 : Try.f74.body = some n74_0 := by kernel_rfl
theorem run74 (E : Ev) (args : List Value) (h : List Blk) (hl : args.length ≤ 9) : runB Try.prog E 74 args h = endS Try.prog [.tmp 4] h.length (codeB Try.prog E ⟨74, 9, h.length, none⟩ n74_0 ⟨enumT 0 args, h, []⟩) := GE.run_step Try.func74 body74 (by kernel_rfl) (by decide) (by kernel_rfl) hl
theorem n74_1s : codeB Try.prog E ⟨f, 9, b, ro⟩ n74_1 st = plainS (runOps Try.prog E b q74_1 (ops [false] Try.f74) st) := GE.region_step (id := 0) (GE.reg_of (by kernel_rfl)) (by kernel_rfl)
theorem n74_3s : codeB Try.prog E ⟨f, 9, b, ro⟩ n74_3 st = plainS (runOps Try.prog E b q74_3 (ops [true, false] Try.f74) st) := GE.region_step (id := 1) (GE.reg_of (by kernel_rfl)) (by kernel_rfl)
theorem n74_4s : codeB Try.prog LL ⟨74, 9, b, ro⟩ n74_4 st = normS b ⟨[4], []⟩ .ret st := GE.ret_step (by kernel_rfl) (by kernel_rfl)
theorem n74_2s : codeB Try.prog E cx n74_2 st = thenS (codeB Try.prog E cx n74_3 st) (codeB Try.prog E cx n74_4) := GE.seq_step (by kernel_rfl)
theorem n74_0s : codeB Try.prog E cx n74_0 st = thenS (codeB Try.prog E cx n74_1 st) (codeB Try.prog E cx n74_2) := GE.seq_step (by kernel_rfl)
noncomputable def n75_0 : Code := bodyOf Try.f75
noncomputable def n75_1 : Code := cl n75_0
noncomputable def q75_1 : List Oper := opsOf n75_1
noncomputable def n75_2 : Code := cr n75_0
noncomputable def n75_3 : Code := cl n75_2
noncomputable def q75_3 : List Oper := opsOf n75_3
noncomputable def n75_4 : Code := cr n75_2
theorem body75 : Try.f75.body = some n75_0 := by kernel_rfl
theorem run75 (E : Ev) (args : List Value) (h : List Blk) (hl : args.length ≤ 14) : runB Try.prog E 75 args h = endS Try.prog [.tmp 2] h.length (codeB Try.prog E ⟨75, 14, h.length, none⟩ n75_0 ⟨enumT 0 args, h, []⟩) := GE.run_step Try.func75 body75 (by kernel_rfl) (by decide) (by kernel_rfl) hl
theorem n75_1s : codeB Try.prog E ⟨f, 14, b, ro⟩ n75_1 st = plainS (runOps Try.prog E b q75_1 (ops [false] Try.f75) st) := GE.region_step (id := 0) (GE.reg_of (by kernel_rfl)) (by kernel_rfl)
theorem q75_3g6 : gd q75_3 6 = some 9 := by kernel_rfl
theorem n75_3s : codeB Try.prog E ⟨f, 14, b, ro⟩ n75_3 st = plainS (runOps Try.prog E b q75_3 (ops [true, false] Try.f75) st) := GE.region_step (id := 1) (GE.reg_of (by kernel_rfl)) (by kernel_rfl)
theorem n75_4s : codeB Try.prog LL ⟨75, 14, b, ro⟩ n75_4 st = normS b ⟨[2], []⟩ .ret st := GE.ret_step (by kernel_rfl) (by kernel_rfl)
theorem n75_2s : codeB Try.prog E cx n75_2 st = thenS (codeB Try.prog E cx n75_3 st) (codeB Try.prog E cx n75_4) := GE.seq_step (by kernel_rfl)
theorem n75_0s : codeB Try.prog E cx n75_0 st = thenS (codeB Try.prog E cx n75_1 st) (codeB Try.prog E cx n75_2) := GE.seq_step (by kernel_rfl)
noncomputable def n77_0 : Code := bodyOf Try.f77
noncomputable def n77_1 : Code := cl n77_0
noncomputable def q77_1 : List Oper := opsOf n77_1
noncomputable def n77_2 : Code := cr n77_0
noncomputable def n77_3 : Code := cl n77_2
noncomputable def q77_3 : List Oper := opsOf n77_3
noncomputable def n77_4 : Code := cr n77_2
theorem body77 : Try.f77.body = some n77_0 := by kernel_rfl
theorem run77 (E : Ev) (args : List Value) (h : List Blk) (hl : args.length ≤ 18) : runB Try.prog E 77 args h = endS Try.prog [.tmp 6] h.length (codeB Try.prog E ⟨77, 18, h.length, none⟩ n77_0 ⟨enumT 0 args, h, []⟩) := GE.run_step Try.func77 body77 (by kernel_rfl) (by decide) (by kernel_rfl) hl
theorem n77_1s : codeB Try.prog E ⟨f, 18, b, ro⟩ n77_1 st = plainS (runOps Try.prog E b q77_1 (ops [false] Try.f77) st) := GE.region_step (id := 0) (GE.reg_of (by kernel_rfl)) (by kernel_rfl)
theorem n77_3s : codeB Try.prog E ⟨f, 18, b, ro⟩ n77_3 st = drawS [0, 0, 3, 7, 15, 0, 0, 96, 224, 480, 1023, 2047] (runOpsF Try.prog E b q77_3 (ops [true, false] Try.f77) st) := GE.draw_step (id := 1) (GE.reg_of (by kernel_rfl)) (by kernel_rfl) (by kernel_rfl) (by kernel_rfl)
theorem n77_4s : codeB Try.prog LL ⟨77, 18, b, ro⟩ n77_4 st = normS b ⟨[6], []⟩ .ret st := GE.ret_step (by kernel_rfl) (by kernel_rfl)
theorem n77_2s : codeB Try.prog E cx n77_2 st = thenS (codeB Try.prog E cx n77_3 st) (codeB Try.prog E cx n77_4) := GE.seq_step (by kernel_rfl)
theorem n77_0s : codeB Try.prog E cx n77_0 st = thenS (codeB Try.prog E cx n77_1 st) (codeB Try.prog E cx n77_2) := GE.seq_step (by kernel_rfl)
noncomputable def n81_0 : Code := bodyOf Try.f81
noncomputable def n81_1 : Code := cl n81_0
noncomputable def q81_1 : List Oper := opsOf n81_1
noncomputable def n81_2 : Code := cr n81_0
noncomputable def n81_3 : Code := cl n81_2
noncomputable def q81_3 : List Oper := opsOf n81_3
noncomputable def n81_4 : Code := cr n81_2
noncomputable def n81_5 : Code := cl n81_4
noncomputable def n81_6 : Code := cl n81_5
noncomputable def q81_6 : List Oper := opsOf n81_6
noncomputable def n81_7 : Code := cr n81_5
noncomputable def n81_8 : Code := cl n81_7
noncomputable def n81_9 : Code := cl n81_8
noncomputable def n81_10 : Code := cl n81_9
noncomputable def q81_10 : List Oper := opsOf n81_10
noncomputable def n81_11 : Code := cr n81_9
noncomputable def n81_12 : Code := cl n81_11
noncomputable def n81_13 : Code := cl n81_12
noncomputable def n81_14 : Code := cr n81_12
noncomputable def n81_15 : Code := cr n81_11
noncomputable def n81_16 : Code := cl n81_15
noncomputable def n81_17 : Code := cl n81_16
noncomputable def n81_18 : Code := cl n81_17
noncomputable def q81_18 : List Oper := opsOf n81_18
noncomputable def n81_19 : Code := cr n81_17
noncomputable def n81_20 : Code := cl n81_19
noncomputable def q81_20 : List Oper := opsOf n81_20
noncomputable def n81_21 : Code := cr n81_19
noncomputable def n81_22 : Code := cl n81_21
noncomputable def q81_22 : List Oper := opsOf n81_22
noncomputable def n81_23 : Code := cr n81_21
noncomputable def n81_24 : Code := cl n81_23
noncomputable def q81_24 : List Oper := opsOf n81_24
noncomputable def n81_25 : Code := cr n81_23
noncomputable def n81_26 : Code := cr n81_15
noncomputable def q81_26 : List Oper := opsOf n81_26
noncomputable def n81_27 : Code := cr n81_4
noncomputable def n81_28 : Code := cl n81_27
noncomputable def q81_28 : List Oper := opsOf n81_28
noncomputable def n81_29 : Code := cr n81_27
theorem body81 : Try.f81.body = some n81_0 := by kernel_rfl
theorem run81 (E : Ev) (args : List Value) (h : List Blk) (hl : args.length ≤ 36) : runB Try.prog E 81 args h = endS Try.prog [.tmp 4] h.length (codeB Try.prog E ⟨81, 36, h.length, none⟩ n81_0 ⟨enumT 0 args, h, []⟩) := GE.run_step Try.func81 body81 (by kernel_rfl) (by decide) (by kernel_rfl) hl
theorem n81_1s : codeB Try.prog E ⟨f, 36, b, ro⟩ n81_1 st = plainS (runOps Try.prog E b q81_1 (ops [false] Try.f81) st) := GE.region_step (id := 0) (GE.reg_of (by kernel_rfl)) (by kernel_rfl)
theorem n81_3s : codeB Try.prog E ⟨f, 36, b, ro⟩ n81_3 st = plainS (runOps Try.prog E b q81_3 (ops [true, false] Try.f81) st) := GE.region_step (id := 1) (GE.reg_of (by kernel_rfl)) (by kernel_rfl)
theorem n81_6s : codeB Try.prog E ⟨f, 36, b, ro⟩ n81_6 st = plainS (runOps Try.prog E b q81_6 (ops [true, true, false, false] Try.f81) st) := GE.region_step (id := 2) (GE.reg_of (by kernel_rfl)) (by kernel_rfl)
theorem n81_10s : codeB Try.prog E ⟨f, 36, b, ro⟩ n81_10 st = plainS (runOps Try.prog E b q81_10 (ops [true, true, false, true, false, false, false] Try.f81) st) := GE.region_step (id := 3) (GE.reg_of (by kernel_rfl)) (by kernel_rfl)
theorem n81_13s : codeB Try.prog E cx n81_13 st = some (.normal, st) := GE.skip_step (by kernel_rfl)
theorem n81_14s : codeB Try.prog LL ⟨81, 36, b, ro⟩ n81_14 st = normS b ⟨[5], []⟩ (.exit 0) st := GE.exit_step (by kernel_rfl) (by kernel_rfl)
theorem n81_12s : codeB Try.prog E cx n81_12 st = condS (codeB Try.prog E cx n81_13) (codeB Try.prog E cx n81_14) (lk st.σ 11) st := GE.cond_step (c := .tmp 11) (by kernel_rfl)
theorem n81_18s : codeB Try.prog E ⟨f, 36, b, ro⟩ n81_18 st = plainS (runOps Try.prog E b q81_18 (ops [true, true, false, true, false, false, true, true, false, false, false] Try.f81) st) := GE.region_step (id := 4) (GE.reg_of (by kernel_rfl)) (by kernel_rfl)
theorem n81_20s : codeB Try.prog E ⟨f, 36, b, ro⟩ n81_20 st = plainS (runOps Try.prog E b q81_20 (ops [true, true, false, true, false, false, true, true, false, false, true, false] Try.f81) st) := GE.region_step (id := 5) (GE.reg_of (by kernel_rfl)) (by kernel_rfl)
theorem q81_22g3 : gd q81_22 3 = some 20 := by kernel_rfl
theorem n81_22s : codeB Try.prog E ⟨f, 36, b, ro⟩ n81_22 st = plainS (runOps Try.prog E b q81_22 (ops [true, true, false, true, false, false, true, true, false, false, true, true, false] Try.f81) st) := GE.region_step (id := 6) (GE.reg_of (by kernel_rfl)) (by kernel_rfl)
theorem n81_24s : codeB Try.prog E ⟨f, 36, b, ro⟩ n81_24 st = plainS (runOps Try.prog E b q81_24 (ops [true, true, false, true, false, false, true, true, false, false, true, true, true, false] Try.f81) st) := GE.region_step (id := 7) (GE.reg_of (by kernel_rfl)) (by kernel_rfl)
theorem n81_25s : codeB Try.prog E cx n81_25 st = some (.normal, st) := GE.skip_step (by kernel_rfl)
theorem n81_23s : codeB Try.prog E cx n81_23 st = condS (codeB Try.prog E cx n81_24) (codeB Try.prog E cx n81_25) (lk st.σ 25) st := GE.cond_step (c := .tmp 25) (by kernel_rfl)
theorem n81_21s : codeB Try.prog E cx n81_21 st = thenS (codeB Try.prog E cx n81_22 st) (codeB Try.prog E cx n81_23) := GE.seq_step (by kernel_rfl)
theorem n81_19s : codeB Try.prog E cx n81_19 st = thenS (codeB Try.prog E cx n81_20 st) (codeB Try.prog E cx n81_21) := GE.seq_step (by kernel_rfl)
theorem n81_17s : codeB Try.prog E cx n81_17 st = thenS (codeB Try.prog E cx n81_18 st) (codeB Try.prog E cx n81_19) := GE.seq_step (by kernel_rfl)
theorem n81_16s : codeB Try.prog E cx n81_16 st = blockS 1 (codeB Try.prog E cx n81_17 st) st := GE.block_step (by kernel_rfl)
theorem n81_26s : codeB Try.prog E ⟨f, 36, b, ro⟩ n81_26 st = plainS (runOps Try.prog E b q81_26 (ops [true, true, false, true, false, false, true, true, true] Try.f81) st) := GE.region_step (id := 8) (GE.reg_of (by kernel_rfl)) (by kernel_rfl)
theorem n81_15s : codeB Try.prog E cx n81_15 st = thenS (codeB Try.prog E cx n81_16 st) (codeB Try.prog E cx n81_26) := GE.seq_step (by kernel_rfl)
theorem n81_11s : codeB Try.prog E cx n81_11 st = thenS (codeB Try.prog E cx n81_12 st) (codeB Try.prog E cx n81_15) := GE.seq_step (by kernel_rfl)
theorem n81_9s : codeB Try.prog E cx n81_9 st = thenS (codeB Try.prog E cx n81_10 st) (codeB Try.prog E cx n81_11) := GE.seq_step (by kernel_rfl)
theorem n81_8k : LL.kp (⟨81, 36, b, ro⟩ : Cx).fn (4 * rid n81_9 + 3) = some ⟨[0, 1, 2, 5, 9, 10], []⟩ := by kernel_rfl
theorem n81_8s : codeB Try.prog LL ⟨81, 36, b, ro⟩ n81_8 st = headS b ⟨[0, 1, 2, 5, 9, 10], []⟩ st (lpB Try.prog LL ⟨81, 36, b, ro⟩ n81_8 n81_9) := GE.lpB_step (by kernel_rfl) (n81_8k b ro)
theorem n81_8g : LL.code ⟨81, 36, b, ro⟩ n81_8 st = headS b ⟨[0, 1, 2, 5, 9, 10], []⟩ st (lpB Try.prog LL ⟨81, 36, b, ro⟩ n81_8 n81_9) := GE.lpB_again (by kernel_rfl) (n81_8k b ro)
theorem n81_7s : codeB Try.prog E cx n81_7 st = blockS 0 (codeB Try.prog E cx n81_8 st) st := GE.block_step (by kernel_rfl)
theorem n81_5s : codeB Try.prog E cx n81_5 st = thenS (codeB Try.prog E cx n81_6 st) (codeB Try.prog E cx n81_7) := GE.seq_step (by kernel_rfl)
theorem n81_28s : codeB Try.prog E ⟨f, 36, b, ro⟩ n81_28 st = plainS (runOps Try.prog E b q81_28 (ops [true, true, true, false] Try.f81) st) := GE.region_step (id := 9) (GE.reg_of (by kernel_rfl)) (by kernel_rfl)
theorem n81_29s : codeB Try.prog LL ⟨81, 36, b, ro⟩ n81_29 st = normS b ⟨[4], []⟩ .ret st := GE.ret_step (by kernel_rfl) (by kernel_rfl)
theorem n81_27s : codeB Try.prog E cx n81_27 st = thenS (codeB Try.prog E cx n81_28 st) (codeB Try.prog E cx n81_29) := GE.seq_step (by kernel_rfl)
theorem n81_4s : codeB Try.prog E cx n81_4 st = thenS (codeB Try.prog E cx n81_5 st) (codeB Try.prog E cx n81_27) := GE.seq_step (by kernel_rfl)
theorem n81_2s : codeB Try.prog E cx n81_2 st = thenS (codeB Try.prog E cx n81_3 st) (codeB Try.prog E cx n81_4) := GE.seq_step (by kernel_rfl)
theorem n81_0s : codeB Try.prog E cx n81_0 st = thenS (codeB Try.prog E cx n81_1 st) (codeB Try.prog E cx n81_2) := GE.seq_step (by kernel_rfl)
noncomputable def n82_0 : Code := bodyOf Try.f82
noncomputable def n82_1 : Code := cl n82_0
noncomputable def q82_1 : List Oper := opsOf n82_1
noncomputable def n82_2 : Code := cr n82_0
noncomputable def n82_3 : Code := cl n82_2
noncomputable def n82_4 : Code := cl n82_3
noncomputable def q82_4 : List Oper := opsOf n82_4
noncomputable def n82_5 : Code := cr n82_3
noncomputable def n82_6 : Code := cl n82_5
noncomputable def n82_7 : Code := cl n82_6
noncomputable def n82_8 : Code := cl n82_7
noncomputable def q82_8 : List Oper := opsOf n82_8
noncomputable def n82_9 : Code := cr n82_7
noncomputable def n82_10 : Code := cl n82_9
noncomputable def n82_11 : Code := cl n82_10
noncomputable def n82_12 : Code := cr n82_10
noncomputable def n82_13 : Code := cr n82_9
noncomputable def n82_14 : Code := cl n82_13
noncomputable def n82_15 : Code := cl n82_14
noncomputable def n82_16 : Code := cl n82_15
noncomputable def q82_16 : List Oper := opsOf n82_16
noncomputable def n82_17 : Code := cr n82_15
noncomputable def n82_18 : Code := cl n82_17
noncomputable def q82_18 : List Oper := opsOf n82_18
noncomputable def n82_19 : Code := cr n82_17
noncomputable def n82_20 : Code := cl n82_19
noncomputable def n82_21 : Code := cl n82_20
noncomputable def q82_21 : List Oper := opsOf n82_21
noncomputable def n82_22 : Code := cr n82_20
noncomputable def n82_23 : Code := cr n82_19
noncomputable def n82_24 : Code := cr n82_13
noncomputable def q82_24 : List Oper := opsOf n82_24
noncomputable def n82_25 : Code := cr n82_2
noncomputable def n82_26 : Code := cl n82_25
noncomputable def q82_26 : List Oper := opsOf n82_26
noncomputable def n82_27 : Code := cr n82_25
theorem body82 : Try.f82.body = some n82_0 := by kernel_rfl
theorem run82 (E : Ev) (args : List Value) (h : List Blk) (hl : args.length ≤ 19) : runB Try.prog E 82 args h = endS Try.prog [.tmp 4] h.length (codeB Try.prog E ⟨82, 19, h.length, none⟩ n82_0 ⟨enumT 0 args, h, []⟩) := GE.run_step Try.func82 body82 (by kernel_rfl) (by decide) (by kernel_rfl) hl
theorem n82_1s : codeB Try.prog E ⟨f, 19, b, ro⟩ n82_1 st = plainS (runOps Try.prog E b q82_1 (ops [false] Try.f82) st) := GE.region_step (id := 0) (GE.reg_of (by kernel_rfl)) (by kernel_rfl)
theorem n82_4s : codeB Try.prog E ⟨f, 19, b, ro⟩ n82_4 st = plainS (runOps Try.prog E b q82_4 (ops [true, false, false] Try.f82) st) := GE.region_step (id := 1) (GE.reg_of (by kernel_rfl)) (by kernel_rfl)
theorem n82_8s : codeB Try.prog E ⟨f, 19, b, ro⟩ n82_8 st = plainS (runOps Try.prog E b q82_8 (ops [true, false, true, false, false, false] Try.f82) st) := GE.region_step (id := 2) (GE.reg_of (by kernel_rfl)) (by kernel_rfl)
theorem n82_11s : codeB Try.prog E cx n82_11 st = some (.normal, st) := GE.skip_step (by kernel_rfl)
theorem n82_12s : codeB Try.prog LL ⟨82, 19, b, ro⟩ n82_12 st = normS b ⟨[], []⟩ (.exit 0) st := GE.exit_step (by kernel_rfl) (by kernel_rfl)
theorem n82_10s : codeB Try.prog E cx n82_10 st = condS (codeB Try.prog E cx n82_11) (codeB Try.prog E cx n82_12) (lk st.σ 9) st := GE.cond_step (c := .tmp 9) (by kernel_rfl)
theorem n82_16s : codeB Try.prog E ⟨f, 19, b, ro⟩ n82_16 st = plainS (runOps Try.prog E b q82_16 (ops [true, false, true, false, false, true, true, false, false, false] Try.f82) st) := GE.region_step (id := 3) (GE.reg_of (by kernel_rfl)) (by kernel_rfl)
theorem n82_18s : codeB Try.prog E ⟨f, 19, b, ro⟩ n82_18 st = plainS (runOps Try.prog E b q82_18 (ops [true, false, true, false, false, true, true, false, false, true, false] Try.f82) st) := GE.region_step (id := 4) (GE.reg_of (by kernel_rfl)) (by kernel_rfl)
theorem n82_21s : codeB Try.prog E ⟨f, 19, b, ro⟩ n82_21 st = plainS (runOps Try.prog E b q82_21 (ops [true, false, true, false, false, true, true, false, false, true, true, false, false] Try.f82) st) := GE.region_step (id := 5) (GE.reg_of (by kernel_rfl)) (by kernel_rfl)
theorem n82_22s : codeB Try.prog LL ⟨82, 19, b, ro⟩ n82_22 st = normS b ⟨[4], []⟩ .ret st := GE.ret_step (by kernel_rfl) (by kernel_rfl)
theorem n82_20s : codeB Try.prog E cx n82_20 st = thenS (codeB Try.prog E cx n82_21 st) (codeB Try.prog E cx n82_22) := GE.seq_step (by kernel_rfl)
theorem n82_23s : codeB Try.prog E cx n82_23 st = some (.normal, st) := GE.skip_step (by kernel_rfl)
theorem n82_19s : codeB Try.prog E cx n82_19 st = condS (codeB Try.prog E cx n82_20) (codeB Try.prog E cx n82_23) (lk st.σ 16) st := GE.cond_step (c := .tmp 16) (by kernel_rfl)
theorem n82_17s : codeB Try.prog E cx n82_17 st = thenS (codeB Try.prog E cx n82_18 st) (codeB Try.prog E cx n82_19) := GE.seq_step (by kernel_rfl)
theorem n82_15s : codeB Try.prog E cx n82_15 st = thenS (codeB Try.prog E cx n82_16 st) (codeB Try.prog E cx n82_17) := GE.seq_step (by kernel_rfl)
theorem n82_14s : codeB Try.prog E cx n82_14 st = blockS 1 (codeB Try.prog E cx n82_15 st) st := GE.block_step (by kernel_rfl)
theorem n82_24s : codeB Try.prog E ⟨f, 19, b, ro⟩ n82_24 st = plainS (runOps Try.prog E b q82_24 (ops [true, false, true, false, false, true, true, true] Try.f82) st) := GE.region_step (id := 6) (GE.reg_of (by kernel_rfl)) (by kernel_rfl)
theorem n82_13s : codeB Try.prog E cx n82_13 st = thenS (codeB Try.prog E cx n82_14 st) (codeB Try.prog E cx n82_24) := GE.seq_step (by kernel_rfl)
theorem n82_9s : codeB Try.prog E cx n82_9 st = thenS (codeB Try.prog E cx n82_10 st) (codeB Try.prog E cx n82_13) := GE.seq_step (by kernel_rfl)
theorem n82_7s : codeB Try.prog E cx n82_7 st = thenS (codeB Try.prog E cx n82_8 st) (codeB Try.prog E cx n82_9) := GE.seq_step (by kernel_rfl)
theorem n82_6k : LL.kp (⟨82, 19, b, ro⟩ : Cx).fn (4 * rid n82_7 + 3) = some ⟨[0, 1, 7, 8], [⟨0, 0, 2, true⟩]⟩ := by kernel_rfl
theorem n82_6s : codeB Try.prog LL ⟨82, 19, b, ro⟩ n82_6 st = headS b ⟨[0, 1, 7, 8], [⟨0, 0, 2, true⟩]⟩ st (lpB Try.prog LL ⟨82, 19, b, ro⟩ n82_6 n82_7) := GE.lpB_step (by kernel_rfl) (n82_6k b ro)
theorem n82_6g : LL.code ⟨82, 19, b, ro⟩ n82_6 st = headS b ⟨[0, 1, 7, 8], [⟨0, 0, 2, true⟩]⟩ st (lpB Try.prog LL ⟨82, 19, b, ro⟩ n82_6 n82_7) := GE.lpB_again (by kernel_rfl) (n82_6k b ro)
theorem n82_5s : codeB Try.prog E cx n82_5 st = blockS 0 (codeB Try.prog E cx n82_6 st) st := GE.block_step (by kernel_rfl)
theorem n82_3s : codeB Try.prog E cx n82_3 st = thenS (codeB Try.prog E cx n82_4 st) (codeB Try.prog E cx n82_5) := GE.seq_step (by kernel_rfl)
theorem n82_26s : codeB Try.prog E ⟨f, 19, b, ro⟩ n82_26 st = plainS (runOps Try.prog E b q82_26 (ops [true, true, false] Try.f82) st) := GE.region_step (id := 7) (GE.reg_of (by kernel_rfl)) (by kernel_rfl)
theorem n82_27s : codeB Try.prog LL ⟨82, 19, b, ro⟩ n82_27 st = normS b ⟨[4], []⟩ .ret st := GE.ret_step (by kernel_rfl) (by kernel_rfl)
theorem n82_25s : codeB Try.prog E cx n82_25 st = thenS (codeB Try.prog E cx n82_26 st) (codeB Try.prog E cx n82_27) := GE.seq_step (by kernel_rfl)
theorem n82_2s : codeB Try.prog E cx n82_2 st = thenS (codeB Try.prog E cx n82_3 st) (codeB Try.prog E cx n82_25) := GE.seq_step (by kernel_rfl)
theorem n82_0s : codeB Try.prog E cx n82_0 st = thenS (codeB Try.prog E cx n82_1 st) (codeB Try.prog E cx n82_2) := GE.seq_step (by kernel_rfl)
theorem cv_5_3 : convK Try.prog 5 3 = some .i64 := by kernel_rfl
theorem lk_22 : lenK Try.prog 22 = some .sl := by kernel_rfl
theorem lk_49 : lenK Try.prog 49 = some .sl := by kernel_rfl
theorem es_49 : elemK Try.prog 49 = some (none, 1) := by kernel_rfl
theorem ia_24 : aggK Try.prog 24 = some (false, 1) := by kernel_rfl
theorem lk_24 : lenK Try.prog 24 = some .sl := by kernel_rfl
theorem es_24 : elemK Try.prog 24 = some (none, 1) := by kernel_rfl
theorem ia_3 : aggK Try.prog 3 = some (false, 1) := by kernel_rfl
theorem es_22 : elemK Try.prog 22 = some (none, 2) := by kernel_rfl
theorem ia_55 : aggK Try.prog 55 = some (true, 2) := by kernel_rfl
theorem za_55 : zeroA Try.prog 55 = some (.agg #[(.int .i64 (0)), (.int .i64 (0))]) := by kernel_rfl
theorem pl_55 : plK Try.prog 55 = some [(0, 1), (1, 1)] := by kernel_rfl
theorem sl_24 : elemK Try.prog 24 = some (none, 1) := by kernel_rfl
theorem ze_24 : zeroE Try.prog 24 = some (.int .i64 (0)) := by kernel_rfl
theorem ba_24_1 : baseArr (Value.cells (.int .i64 (0))) (1 * 1) = #[(.int .i64 (0))] := by kernel_rfl
theorem ap_24 : apK Try.prog 24 = some (1, 8) := by kernel_rfl
theorem ni_24 : notInt Try.prog 24 = true := by kernel_rfl
theorem ze_22 : zeroE Try.prog 22 = some (.agg #[(.int .i64 (0)), (.int .i64 (0))]) := by kernel_rfl
theorem ba_22_1 : baseArr (Value.cells (.agg #[(.int .i64 (0)), (.int .i64 (0))])) (1 * 2) = #[(.int .i64 (0)), (.int .i64 (0))] := by kernel_rfl
theorem ap_22 : apK Try.prog 22 = some (2, 16) := by kernel_rfl
theorem ni_22 : notInt Try.prog 22 = true := by kernel_rfl
theorem sz_55 : aggSize Try.prog 55 = some 2 := by kernel_rfl
theorem fa_55_0 : fieldAt Try.prog 55 0 = some (0, 1) := by kernel_rfl
theorem fa_55_1 : fieldAt Try.prog 55 1 = some (1, 1) := by kernel_rfl
theorem lk_94 : lenK Try.prog 94 = some .sl := by kernel_rfl
theorem lk_47 : lenK Try.prog 47 = some .sl := by kernel_rfl
theorem es_47 : elemK Try.prog 47 = some (none, 2) := by kernel_rfl
theorem ea_60 : elemK Try.prog 60 = some (some 2, 1) := by kernel_rfl
theorem ia_5 : aggK Try.prog 5 = some (false, 1) := by kernel_rfl
theorem ba_24_2 : baseArr (Value.cells (.int .i64 (0))) (2 * 1) = #[(.int .i64 (0)), (.int .i64 (0))] := by kernel_rfl
theorem ze_49 : zeroE Try.prog 49 = some (.slice none 0 0) := by kernel_rfl
theorem ba_49_1 : baseArr (Value.cells (.slice none 0 0)) (1 * 1) = #[(.slice none 0 0)] := by kernel_rfl
theorem ba_24_0 : baseArr (Value.cells (.int .i64 (0))) (0 * 1) = #[] := by kernel_rfl
theorem ap_49 : apK Try.prog 49 = some (1, 24) := by kernel_rfl
theorem ni_49 : notInt Try.prog 49 = true := by kernel_rfl
theorem lk_78 : lenK Try.prog 78 = some .sl := by kernel_rfl
theorem sz_3 : aggSize Try.prog 3 = some 1 := by kernel_rfl
theorem fa_110_0 : fieldAt Try.prog 110 0 = some (0, 1) := by kernel_rfl
theorem ia_108 : aggK Try.prog 108 = some (false, 1) := by kernel_rfl
theorem fa_110_1 : fieldAt Try.prog 110 1 = some (1, 1) := by kernel_rfl
theorem ia_91 : aggK Try.prog 91 = some (false, 1) := by kernel_rfl
theorem fa_90_0 : fieldAt Try.prog 90 0 = some (0, 1) := by kernel_rfl
theorem ia_78 : aggK Try.prog 78 = some (false, 1) := by kernel_rfl
theorem fa_90_2 : fieldAt Try.prog 90 2 = some (2, 1) := by kernel_rfl
theorem ia_88 : aggK Try.prog 88 = some (false, 1) := by kernel_rfl
theorem es_94 : elemK Try.prog 94 = some (none, 1) := by kernel_rfl
theorem ze_94 : zeroE Try.prog 94 = some (.int .u32 (0)) := by kernel_rfl
theorem ba_94_1 : baseArr (Value.cells (.int .u32 (0))) (1 * 1) = #[(.int .u32 (0))] := by kernel_rfl
theorem ap_94 : apK Try.prog 94 = some (1, 4) := by kernel_rfl
theorem ni_94 : notInt Try.prog 94 = true := by kernel_rfl
theorem za_90 : zeroA Try.prog 90 = some (.agg #[(.slice none 0 0), (.pointer none), (.pointer none)]) := by kernel_rfl
theorem pl_90 : plK Try.prog 90 = some [(0, 1), (1, 1), (2, 1)] := by kernel_rfl
theorem za_85 : zeroA Try.prog 85 = some (.pointer none) := by kernel_rfl
theorem sz_85 : aggSize Try.prog 85 = some 1 := by kernel_rfl
theorem ia_85 : aggK Try.prog 85 = some (false, 1) := by kernel_rfl
theorem za_110 : zeroA Try.prog 110 = some (.agg #[(.map none), .nilFunc]) := by kernel_rfl
theorem pl_110 : plK Try.prog 110 = some [(0, 1), (1, 1)] := by kernel_rfl
theorem fa_90_1 : fieldAt Try.prog 90 1 = some (1, 1) := by kernel_rfl
theorem sz_88 : aggSize Try.prog 88 = some 1 := by kernel_rfl
theorem es_78 : elemK Try.prog 78 = some (none, 2) := by kernel_rfl

end Go.Proofs.Ytfccmddkblbeoaa.rk
