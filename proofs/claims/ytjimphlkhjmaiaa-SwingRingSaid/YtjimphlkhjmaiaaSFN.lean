/-
  Names for the nodes of the code of some functions (projections of their bodies), the step of each node, and the facts of types that they use.
-/
import Derived.Test.YtjimphlkhjmaiaaKp
namespace Go.Proofs.Ytjimphlkhjmaiaa.sw
open Go.GE
set_option maxRecDepth 100000
variable (E : Ev) (cx : Cx) (st : St) (f nt b : Nat) (ro : Option Nat)
noncomputable def n9_0 : Code := bodyOf Try.f9
noncomputable def n9_1 : Code := cl n9_0
noncomputable def q9_1 : List Oper := opsOf n9_1
noncomputable def n9_2 : Code := cr n9_0
noncomputable def n9_3 : Code := cl n9_2
noncomputable def q9_3 : List Oper := opsOf n9_3
noncomputable def n9_4 : Code := cr n9_2
noncomputable def n9_5 : Code := cl n9_4
noncomputable def q9_5 : List Oper := opsOf n9_5
noncomputable def n9_6 : Code := cr n9_4
noncomputable def n9_7 : Code := cl n9_6
noncomputable def n9_8 : Code := cl n9_7
noncomputable def q9_8 : List Oper := opsOf n9_8
noncomputable def n9_9 : Code := cr n9_7
noncomputable def n9_10 : Code := cl n9_9
noncomputable def n9_11 : Code := cl n9_10
noncomputable def q9_11 : List Oper := opsOf n9_11
noncomputable def n9_12 : Code := cr n9_10
noncomputable def n9_13 : Code := cr n9_9
noncomputable def n9_14 : Code := cr n9_6
noncomputable def n9_15 : Code := cl n9_14
noncomputable def q9_15 : List Oper := opsOf n9_15
noncomputable def n9_16 : Code := cr n9_14
noncomputable def n9_17 : Code := cl n9_16
noncomputable def n9_18 : Code := cl n9_17
noncomputable def q9_18 : List Oper := opsOf n9_18
noncomputable def n9_19 : Code := cr n9_17
noncomputable def n9_20 : Code := cl n9_19
noncomputable def n9_21 : Code := cl n9_20
noncomputable def q9_21 : List Oper := opsOf n9_21
noncomputable def n9_22 : Code := cr n9_20
noncomputable def n9_23 : Code := cr n9_19
noncomputable def n9_24 : Code := cr n9_16
noncomputable def n9_25 : Code := cl n9_24
noncomputable def q9_25 : List Oper := opsOf n9_25
noncomputable def n9_26 : Code := cr n9_24
noncomputable def n9_27 : Code := cl n9_26
noncomputable def n9_28 : Code := cl n9_27
noncomputable def q9_28 : List Oper := opsOf n9_28
noncomputable def n9_29 : Code := cr n9_27
noncomputable def n9_30 : Code := cl n9_29
noncomputable def n9_31 : Code := cl n9_30
noncomputable def n9_32 : Code := cl n9_31
noncomputable def n9_33 : Code := cl n9_32
noncomputable def q9_33 : List Oper := opsOf n9_33
noncomputable def n9_34 : Code := cr n9_32
noncomputable def n9_35 : Code := cl n9_34
noncomputable def n9_36 : Code := cr n9_34
noncomputable def n9_37 : Code := cr n9_31
noncomputable def n9_38 : Code := cl n9_37
noncomputable def n9_39 : Code := cl n9_38
noncomputable def n9_40 : Code := cl n9_39
noncomputable def q9_40 : List Oper := opsOf n9_40
noncomputable def n9_41 : Code := cr n9_39
noncomputable def n9_42 : Code := cl n9_41
noncomputable def n9_43 : Code := cl n9_42
noncomputable def q9_43 : List Oper := opsOf n9_43
noncomputable def n9_44 : Code := cr n9_42
noncomputable def n9_45 : Code := cl n9_44
noncomputable def n9_46 : Code := cl n9_45
noncomputable def q9_46 : List Oper := opsOf n9_46
noncomputable def n9_47 : Code := cr n9_45
noncomputable def n9_48 : Code := cr n9_44
noncomputable def n9_49 : Code := cr n9_41
noncomputable def n9_50 : Code := cl n9_49
noncomputable def q9_50 : List Oper := opsOf n9_50
noncomputable def n9_51 : Code := cr n9_49
noncomputable def n9_52 : Code := cl n9_51
noncomputable def q9_52 : List Oper := opsOf n9_52
noncomputable def n9_53 : Code := cr n9_51
noncomputable def n9_54 : Code := cr n9_37
noncomputable def q9_54 : List Oper := opsOf n9_54
noncomputable def n9_55 : Code := cr n9_26
noncomputable def n9_56 : Code := cl n9_55
noncomputable def q9_56 : List Oper := opsOf n9_56
noncomputable def n9_57 : Code := cr n9_55
noncomputable def n9_58 : Code := cl n9_57
noncomputable def n9_59 : Code := cl n9_58
noncomputable def q9_59 : List Oper := opsOf n9_59
noncomputable def n9_60 : Code := cr n9_58
noncomputable def n9_61 : Code := cl n9_60
noncomputable def n9_62 : Code := cl n9_61
noncomputable def n9_63 : Code := cl n9_62
noncomputable def q9_63 : List Oper := opsOf n9_63
noncomputable def n9_64 : Code := cr n9_62
noncomputable def n9_65 : Code := cl n9_64
noncomputable def n9_66 : Code := cl n9_65
noncomputable def n9_67 : Code := cr n9_65
noncomputable def n9_68 : Code := cr n9_64
noncomputable def n9_69 : Code := cl n9_68
noncomputable def n9_70 : Code := cl n9_69
noncomputable def n9_71 : Code := cl n9_70
noncomputable def q9_71 : List Oper := opsOf n9_71
noncomputable def n9_72 : Code := cr n9_70
noncomputable def n9_73 : Code := cl n9_72
noncomputable def n9_74 : Code := cl n9_73
noncomputable def q9_74 : List Oper := opsOf n9_74
noncomputable def n9_75 : Code := cr n9_73
noncomputable def n9_76 : Code := cl n9_75
noncomputable def n9_77 : Code := cl n9_76
noncomputable def n9_78 : Code := cl n9_77
noncomputable def q9_78 : List Oper := opsOf n9_78
noncomputable def n9_79 : Code := cr n9_77
noncomputable def n9_80 : Code := cl n9_79
noncomputable def n9_81 : Code := cl n9_80
noncomputable def n9_82 : Code := cr n9_80
noncomputable def n9_83 : Code := cr n9_79
noncomputable def n9_84 : Code := cl n9_83
noncomputable def n9_85 : Code := cl n9_84
noncomputable def n9_86 : Code := cl n9_85
noncomputable def q9_86 : List Oper := opsOf n9_86
noncomputable def n9_87 : Code := cr n9_85
noncomputable def n9_88 : Code := cl n9_87
noncomputable def q9_88 : List Oper := opsOf n9_88
noncomputable def n9_89 : Code := cr n9_87
noncomputable def n9_90 : Code := cl n9_89
noncomputable def q9_90 : List Oper := opsOf n9_90
noncomputable def n9_91 : Code := cr n9_89
noncomputable def n9_92 : Code := cr n9_83
noncomputable def q9_92 : List Oper := opsOf n9_92
noncomputable def n9_93 : Code := cr n9_72
noncomputable def n9_94 : Code := cl n9_93
noncomputable def q9_94 : List Oper := opsOf n9_94
noncomputable def n9_95 : Code := cr n9_93
noncomputable def q9_95 : List Oper := opsOf n9_95
noncomputable def n9_96 : Code := cr n9_68
noncomputable def q9_96 : List Oper := opsOf n9_96
noncomputable def n9_97 : Code := cr n9_57
noncomputable def n9_98 : Code := cl n9_97
noncomputable def n9_99 : Code := cl n9_98
noncomputable def q9_99 : List Oper := opsOf n9_99
noncomputable def n9_100 : Code := cr n9_98
noncomputable def n9_101 : Code := cl n9_100
noncomputable def n9_102 : Code := cl n9_101
noncomputable def q9_102 : List Oper := opsOf n9_102
noncomputable def n9_103 : Code := cr n9_101
noncomputable def n9_104 : Code := cr n9_100
noncomputable def n9_105 : Code := cr n9_97
noncomputable def n9_106 : Code := cl n9_105
noncomputable def n9_107 : Code := cl n9_106
noncomputable def q9_107 : List Oper := opsOf n9_107
noncomputable def n9_108 : Code := cr n9_106
noncomputable def n9_109 : Code := cl n9_108
noncomputable def n9_110 : Code := cl n9_109
noncomputable def q9_110 : List Oper := opsOf n9_110
noncomputable def n9_111 : Code := cr n9_109
noncomputable def n9_112 : Code := cl n9_111
noncomputable def n9_113 : Code := cl n9_112
noncomputable def n9_114 : Code := cl n9_113
noncomputable def n9_115 : Code := cl n9_114
noncomputable def q9_115 : List Oper := opsOf n9_115
noncomputable def n9_116 : Code := cr n9_114
noncomputable def n9_117 : Code := cl n9_116
noncomputable def n9_118 : Code := cr n9_116
noncomputable def n9_119 : Code := cr n9_113
noncomputable def n9_120 : Code := cl n9_119
noncomputable def n9_121 : Code := cl n9_120
noncomputable def n9_122 : Code := cl n9_121
noncomputable def q9_122 : List Oper := opsOf n9_122
noncomputable def n9_123 : Code := cr n9_121
noncomputable def n9_124 : Code := cl n9_123
noncomputable def n9_125 : Code := cl n9_124
noncomputable def q9_125 : List Oper := opsOf n9_125
noncomputable def n9_126 : Code := cr n9_124
noncomputable def n9_127 : Code := cl n9_126
noncomputable def n9_128 : Code := cl n9_127
noncomputable def n9_129 : Code := cl n9_128
noncomputable def q9_129 : List Oper := opsOf n9_129
noncomputable def n9_130 : Code := cr n9_128
noncomputable def n9_131 : Code := cl n9_130
noncomputable def n9_132 : Code := cl n9_131
noncomputable def n9_133 : Code := cr n9_131
noncomputable def n9_134 : Code := cr n9_130
noncomputable def n9_135 : Code := cl n9_134
noncomputable def n9_136 : Code := cl n9_135
noncomputable def n9_137 : Code := cl n9_136
noncomputable def q9_137 : List Oper := opsOf n9_137
noncomputable def n9_138 : Code := cr n9_136
noncomputable def q9_138 : List Oper := opsOf n9_138
noncomputable def n9_139 : Code := cr n9_134
noncomputable def q9_139 : List Oper := opsOf n9_139
noncomputable def n9_140 : Code := cr n9_123
noncomputable def n9_141 : Code := cl n9_140
noncomputable def q9_141 : List Oper := opsOf n9_141
noncomputable def n9_142 : Code := cr n9_140
noncomputable def n9_143 : Code := cl n9_142
noncomputable def q9_143 : List Oper := opsOf n9_143
noncomputable def n9_144 : Code := cr n9_142
noncomputable def n9_145 : Code := cl n9_144
noncomputable def n9_146 : Code := cl n9_145
noncomputable def q9_146 : List Oper := opsOf n9_146
noncomputable def n9_147 : Code := cr n9_145
noncomputable def n9_148 : Code := cr n9_144
noncomputable def n9_149 : Code := cr n9_119
noncomputable def q9_149 : List Oper := opsOf n9_149
noncomputable def n9_150 : Code := cr n9_108
noncomputable def n9_151 : Code := cr n9_105
noncomputable def n9_152 : Code := cl n9_151
noncomputable def q9_152 : List Oper := opsOf n9_152
noncomputable def n9_153 : Code := cr n9_151
noncomputable def n9_154 : Code := cl n9_153
noncomputable def q9_154 : List Oper := opsOf n9_154
noncomputable def n9_155 : Code := cr n9_153
noncomputable def n9_156 : Code := cl n9_155
noncomputable def q9_156 : List Oper := opsOf n9_156
noncomputable def n9_157 : Code := cr n9_155
theorem body9 : Try.f9.body = some n9_0 := by kernel_rfl
theorem run9 (E : Ev) (args : List Value) (h : List Blk) (hl : args.length ≤ 197) : runB Try.prog E 9 args h = endS Try.prog [.tmp 4] h.length (codeB Try.prog E ⟨9, 197, h.length, none⟩ n9_0 ⟨enumT 0 args, h, []⟩) := GE.run_step Try.func9 body9 (by kernel_rfl) (by decide) (by kernel_rfl) hl
theorem n9_1s : codeB Try.prog E ⟨f, 197, b, ro⟩ n9_1 st = plainS (runOps Try.prog E b q9_1 (ops [false] Try.f9) st) := GE.region_step (id := 0) (GE.reg_of (by kernel_rfl)) (by kernel_rfl)
theorem n9_3s : codeB Try.prog E ⟨f, 197, b, ro⟩ n9_3 st = plainS (runOps Try.prog E b q9_3 (ops [true, false] Try.f9) st) := GE.region_step (id := 1) (GE.reg_of (by kernel_rfl)) (by kernel_rfl)
theorem n9_5s : codeB Try.prog E ⟨f, 197, b, ro⟩ n9_5 st = plainS (runOps Try.prog E b q9_5 (ops [true, true, false] Try.f9) st) := GE.region_step (id := 2) (GE.reg_of (by kernel_rfl)) (by kernel_rfl)
theorem q9_8g2 : gd q9_8 2 = some 35 := by kernel_rfl
theorem q9_8g9 : gd q9_8 9 = some 42 := by kernel_rfl
theorem q9_8g14 : gd q9_8 14 = some 47 := by kernel_rfl
theorem n9_8s : codeB Try.prog E ⟨f, 197, b, ro⟩ n9_8 st = plainS (runOps Try.prog E b q9_8 (ops [true, true, true, false, false] Try.f9) st) := GE.region_step (id := 3) (GE.reg_of (by kernel_rfl)) (by kernel_rfl)
theorem n9_11s : codeB Try.prog E ⟨f, 197, b, ro⟩ n9_11 st = plainS (runOps Try.prog E b q9_11 (ops [true, true, true, false, true, false, false] Try.f9) st) := GE.region_step (id := 4) (GE.reg_of (by kernel_rfl)) (by kernel_rfl)
theorem n9_12s : codeB Try.prog LL ⟨9, 197, b, ro⟩ n9_12 st = normS b ⟨[4], []⟩ .ret st := GE.ret_step (by kernel_rfl) (by kernel_rfl)
theorem n9_10s : codeB Try.prog E cx n9_10 st = thenS (codeB Try.prog E cx n9_11 st) (codeB Try.prog E cx n9_12) := GE.seq_step (by kernel_rfl)
theorem n9_13s : codeB Try.prog E cx n9_13 st = some (.normal, st) := GE.skip_step (by kernel_rfl)
theorem n9_9s : codeB Try.prog E cx n9_9 st = condS (codeB Try.prog E cx n9_10) (codeB Try.prog E cx n9_13) (lk st.σ 53) st := GE.cond_step (c := .tmp 53) (by kernel_rfl)
theorem n9_7s : codeB Try.prog E cx n9_7 st = thenS (codeB Try.prog E cx n9_8 st) (codeB Try.prog E cx n9_9) := GE.seq_step (by kernel_rfl)
theorem n9_15s : codeB Try.prog E ⟨f, 197, b, ro⟩ n9_15 st = plainS (runOps Try.prog E b q9_15 (ops [true, true, true, true, false] Try.f9) st) := GE.region_step (id := 5) (GE.reg_of (by kernel_rfl)) (by kernel_rfl)
theorem q9_18g2 : gd q9_18 2 = some 61 := by kernel_rfl
theorem n9_18s : codeB Try.prog E ⟨f, 197, b, ro⟩ n9_18 st = plainS (runOps Try.prog E b q9_18 (ops [true, true, true, true, true, false, false] Try.f9) st) := GE.region_step (id := 6) (GE.reg_of (by kernel_rfl)) (by kernel_rfl)
theorem n9_21s : codeB Try.prog E ⟨f, 197, b, ro⟩ n9_21 st = plainS (runOps Try.prog E b q9_21 (ops [true, true, true, true, true, false, true, false, false] Try.f9) st) := GE.region_step (id := 7) (GE.reg_of (by kernel_rfl)) (by kernel_rfl)
theorem n9_22s : codeB Try.prog LL ⟨9, 197, b, ro⟩ n9_22 st = normS b ⟨[4], []⟩ .ret st := GE.ret_step (by kernel_rfl) (by kernel_rfl)
theorem n9_20s : codeB Try.prog E cx n9_20 st = thenS (codeB Try.prog E cx n9_21 st) (codeB Try.prog E cx n9_22) := GE.seq_step (by kernel_rfl)
theorem n9_23s : codeB Try.prog E cx n9_23 st = some (.normal, st) := GE.skip_step (by kernel_rfl)
theorem n9_19s : codeB Try.prog E cx n9_19 st = condS (codeB Try.prog E cx n9_20) (codeB Try.prog E cx n9_23) (lk st.σ 65) st := GE.cond_step (c := .tmp 65) (by kernel_rfl)
theorem n9_17s : codeB Try.prog E cx n9_17 st = thenS (codeB Try.prog E cx n9_18 st) (codeB Try.prog E cx n9_19) := GE.seq_step (by kernel_rfl)
theorem n9_25s : codeB Try.prog E ⟨f, 197, b, ro⟩ n9_25 st = plainS (runOps Try.prog E b q9_25 (ops [true, true, true, true, true, true, false] Try.f9) st) := GE.region_step (id := 8) (GE.reg_of (by kernel_rfl)) (by kernel_rfl)
theorem n9_28s : codeB Try.prog E ⟨f, 197, b, ro⟩ n9_28 st = plainS (runOps Try.prog E b q9_28 (ops [true, true, true, true, true, true, true, false, false] Try.f9) st) := GE.region_step (id := 9) (GE.reg_of (by kernel_rfl)) (by kernel_rfl)
theorem n9_33s : codeB Try.prog E ⟨f, 197, b, ro⟩ n9_33 st = plainS (runOps Try.prog E b q9_33 (ops [true, true, true, true, true, true, true, false, true, false, false, false, false] Try.f9) st) := GE.region_step (id := 10) (GE.reg_of (by kernel_rfl)) (by kernel_rfl)
theorem n9_35s : codeB Try.prog E cx n9_35 st = some (.normal, st) := GE.skip_step (by kernel_rfl)
theorem n9_36s : codeB Try.prog LL ⟨9, 197, b, ro⟩ n9_36 st = normS b ⟨[3, 5, 6, 9], [⟨9, 0, 1, true⟩]⟩ (.exit 0) st := GE.exit_step (by kernel_rfl) (by kernel_rfl)
theorem n9_34s : codeB Try.prog E cx n9_34 st = condS (codeB Try.prog E cx n9_35) (codeB Try.prog E cx n9_36) (lk st.σ 68) st := GE.cond_step (c := .tmp 68) (by kernel_rfl)
theorem n9_32s : codeB Try.prog E cx n9_32 st = thenS (codeB Try.prog E cx n9_33 st) (codeB Try.prog E cx n9_34) := GE.seq_step (by kernel_rfl)
theorem n9_40s : codeB Try.prog E ⟨f, 197, b, ro⟩ n9_40 st = plainS (runOps Try.prog E b q9_40 (ops [true, true, true, true, true, true, true, false, true, false, false, true, false, false, false] Try.f9) st) := GE.region_step (id := 12) (GE.reg_of (by kernel_rfl)) (by kernel_rfl)
theorem n9_43s : codeB Try.prog E ⟨f, 197, b, ro⟩ n9_43 st = plainS (runOps Try.prog E b q9_43 (ops [true, true, true, true, true, true, true, false, true, false, false, true, false, false, true, false, false] Try.f9) st) := GE.region_step (id := 13) (GE.reg_of (by kernel_rfl)) (by kernel_rfl)
theorem n9_46s : codeB Try.prog E ⟨f, 197, b, ro⟩ n9_46 st = plainS (runOps Try.prog E b q9_46 (ops [true, true, true, true, true, true, true, false, true, false, false, true, false, false, true, false, true, false, false] Try.f9) st) := GE.region_step (id := 14) (GE.reg_of (by kernel_rfl)) (by kernel_rfl)
theorem n9_47s : codeB Try.prog LL ⟨9, 197, b, ro⟩ n9_47 st = normS b ⟨[4], []⟩ .ret st := GE.ret_step (by kernel_rfl) (by kernel_rfl)
theorem n9_45s : codeB Try.prog E cx n9_45 st = thenS (codeB Try.prog E cx n9_46 st) (codeB Try.prog E cx n9_47) := GE.seq_step (by kernel_rfl)
theorem n9_48s : codeB Try.prog E cx n9_48 st = some (.normal, st) := GE.skip_step (by kernel_rfl)
theorem n9_44s : codeB Try.prog E cx n9_44 st = condS (codeB Try.prog E cx n9_45) (codeB Try.prog E cx n9_48) (lk st.σ 77) st := GE.cond_step (c := .tmp 77) (by kernel_rfl)
theorem n9_42s : codeB Try.prog E cx n9_42 st = thenS (codeB Try.prog E cx n9_43 st) (codeB Try.prog E cx n9_44) := GE.seq_step (by kernel_rfl)
theorem n9_50s : codeB Try.prog E ⟨f, 197, b, ro⟩ n9_50 st = plainS (runOps Try.prog E b q9_50 (ops [true, true, true, true, true, true, true, false, true, false, false, true, false, false, true, true, false] Try.f9) st) := GE.region_step (id := 15) (GE.reg_of (by kernel_rfl)) (by kernel_rfl)
theorem n9_52s : codeB Try.prog E ⟨f, 197, b, ro⟩ n9_52 st = plainS (runOps Try.prog E b q9_52 (ops [true, true, true, true, true, true, true, false, true, false, false, true, false, false, true, true, true, false] Try.f9) st) := GE.region_step (id := 16) (GE.reg_of (by kernel_rfl)) (by kernel_rfl)
theorem n9_53s : codeB Try.prog E cx n9_53 st = some (.normal, st) := GE.skip_step (by kernel_rfl)
theorem n9_51s : codeB Try.prog E cx n9_51 st = condS (codeB Try.prog E cx n9_52) (codeB Try.prog E cx n9_53) (lk st.σ 81) st := GE.cond_step (c := .tmp 81) (by kernel_rfl)
theorem n9_49s : codeB Try.prog E cx n9_49 st = thenS (codeB Try.prog E cx n9_50 st) (codeB Try.prog E cx n9_51) := GE.seq_step (by kernel_rfl)
theorem n9_41s : codeB Try.prog E cx n9_41 st = thenS (codeB Try.prog E cx n9_42 st) (codeB Try.prog E cx n9_49) := GE.seq_step (by kernel_rfl)
theorem n9_39s : codeB Try.prog E cx n9_39 st = thenS (codeB Try.prog E cx n9_40 st) (codeB Try.prog E cx n9_41) := GE.seq_step (by kernel_rfl)
theorem n9_38s : codeB Try.prog E cx n9_38 st = blockS 1 (codeB Try.prog E cx n9_39 st) st := GE.block_step (by kernel_rfl)
theorem n9_54s : codeB Try.prog E ⟨f, 197, b, ro⟩ n9_54 st = plainS (runOps Try.prog E b q9_54 (ops [true, true, true, true, true, true, true, false, true, false, false, true, true] Try.f9) st) := GE.region_step (id := 11) (GE.reg_of (by kernel_rfl)) (by kernel_rfl)
theorem n9_37s : codeB Try.prog E cx n9_37 st = thenS (codeB Try.prog E cx n9_38 st) (codeB Try.prog E cx n9_54) := GE.seq_step (by kernel_rfl)
theorem n9_31s : codeB Try.prog E cx n9_31 st = thenS (codeB Try.prog E cx n9_32 st) (codeB Try.prog E cx n9_37) := GE.seq_step (by kernel_rfl)
theorem n9_30k : LL.kp (⟨9, 197, b, ro⟩ : Cx).fn (4 * rid n9_31 + 3) = some ⟨[3, 5, 6, 9, 10], [⟨9, 0, 1, true⟩]⟩ := by kernel_rfl
theorem n9_30s : codeB Try.prog LL ⟨9, 197, b, ro⟩ n9_30 st = headS b ⟨[3, 5, 6, 9, 10], [⟨9, 0, 1, true⟩]⟩ st (lpB Try.prog LL ⟨9, 197, b, ro⟩ n9_30 n9_31) := GE.lpB_step (by kernel_rfl) (n9_30k b ro)
theorem n9_30g : LL.code ⟨9, 197, b, ro⟩ n9_30 st = headS b ⟨[3, 5, 6, 9, 10], [⟨9, 0, 1, true⟩]⟩ st (lpB Try.prog LL ⟨9, 197, b, ro⟩ n9_30 n9_31) := GE.lpB_again (by kernel_rfl) (n9_30k b ro)
theorem n9_29s : codeB Try.prog E cx n9_29 st = blockS 0 (codeB Try.prog E cx n9_30 st) st := GE.block_step (by kernel_rfl)
theorem n9_27s : codeB Try.prog E cx n9_27 st = thenS (codeB Try.prog E cx n9_28 st) (codeB Try.prog E cx n9_29) := GE.seq_step (by kernel_rfl)
theorem n9_56s : codeB Try.prog E ⟨f, 197, b, ro⟩ n9_56 st = plainS (runOps Try.prog E b q9_56 (ops [true, true, true, true, true, true, true, true, false] Try.f9) st) := GE.region_step (id := 17) (GE.reg_of (by kernel_rfl)) (by kernel_rfl)
theorem n9_59s : codeB Try.prog E ⟨f, 197, b, ro⟩ n9_59 st = plainS (runOps Try.prog E b q9_59 (ops [true, true, true, true, true, true, true, true, true, false, false] Try.f9) st) := GE.region_step (id := 18) (GE.reg_of (by kernel_rfl)) (by kernel_rfl)
theorem n9_63s : codeB Try.prog E ⟨f, 197, b, ro⟩ n9_63 st = plainS (runOps Try.prog E b q9_63 (ops [true, true, true, true, true, true, true, true, true, false, true, false, false, false] Try.f9) st) := GE.region_step (id := 19) (GE.reg_of (by kernel_rfl)) (by kernel_rfl)
theorem n9_66s : codeB Try.prog E cx n9_66 st = some (.normal, st) := GE.skip_step (by kernel_rfl)
theorem n9_67s : codeB Try.prog LL ⟨9, 197, b, ro⟩ n9_67 st = normS b ⟨[3, 5, 6, 13], []⟩ (.exit 2) st := GE.exit_step (by kernel_rfl) (by kernel_rfl)
theorem n9_65s : codeB Try.prog E cx n9_65 st = condS (codeB Try.prog E cx n9_66) (codeB Try.prog E cx n9_67) (lk st.σ 88) st := GE.cond_step (c := .tmp 88) (by kernel_rfl)
theorem n9_71s : codeB Try.prog E ⟨f, 197, b, ro⟩ n9_71 st = plainS (runOps Try.prog E b q9_71 (ops [true, true, true, true, true, true, true, true, true, false, true, false, false, true, true, false, false, false] Try.f9) st) := GE.region_step (id := 20) (GE.reg_of (by kernel_rfl)) (by kernel_rfl)
theorem n9_74s : codeB Try.prog E ⟨f, 197, b, ro⟩ n9_74 st = plainS (runOps Try.prog E b q9_74 (ops [true, true, true, true, true, true, true, true, true, false, true, false, false, true, true, false, false, true, false, false] Try.f9) st) := GE.region_step (id := 21) (GE.reg_of (by kernel_rfl)) (by kernel_rfl)
theorem n9_78s : codeB Try.prog E ⟨f, 197, b, ro⟩ n9_78 st = plainS (runOps Try.prog E b q9_78 (ops [true, true, true, true, true, true, true, true, true, false, true, false, false, true, true, false, false, true, false, true, false, false, false] Try.f9) st) := GE.region_step (id := 22) (GE.reg_of (by kernel_rfl)) (by kernel_rfl)
theorem n9_81s : codeB Try.prog E cx n9_81 st = some (.normal, st) := GE.skip_step (by kernel_rfl)
theorem n9_82s : codeB Try.prog LL ⟨9, 197, b, ro⟩ n9_82 st = normS b ⟨[14, 3, 5, 6, 9, 13, 86, 87], [⟨9, 0, 1, true⟩]⟩ (.exit 4) st := GE.exit_step (by kernel_rfl) (by kernel_rfl)
theorem n9_80s : codeB Try.prog E cx n9_80 st = condS (codeB Try.prog E cx n9_81) (codeB Try.prog E cx n9_82) (lk st.σ 92) st := GE.cond_step (c := .tmp 92) (by kernel_rfl)
theorem n9_86s : codeB Try.prog E ⟨f, 197, b, ro⟩ n9_86 st = plainS (runOps Try.prog E b q9_86 (ops [true, true, true, true, true, true, true, true, true, false, true, false, false, true, true, false, false, true, false, true, false, false, true, true, false, false, false] Try.f9) st) := GE.region_step (id := 23) (GE.reg_of (by kernel_rfl)) (by kernel_rfl)
theorem q9_88g5 : gd q9_88 5 = some 101 := by kernel_rfl
theorem q9_88g8 : gd q9_88 8 = some 104 := by kernel_rfl
theorem n9_88s : codeB Try.prog E ⟨f, 197, b, ro⟩ n9_88 st = plainS (runOps Try.prog E b q9_88 (ops [true, true, true, true, true, true, true, true, true, false, true, false, false, true, true, false, false, true, false, true, false, false, true, true, false, false, true, false] Try.f9) st) := GE.region_step (id := 24) (GE.reg_of (by kernel_rfl)) (by kernel_rfl)
theorem n9_90s : codeB Try.prog E ⟨f, 197, b, ro⟩ n9_90 st = plainS (runOps Try.prog E b q9_90 (ops [true, true, true, true, true, true, true, true, true, false, true, false, false, true, true, false, false, true, false, true, false, false, true, true, false, false, true, true, false] Try.f9) st) := GE.region_step (id := 25) (GE.reg_of (by kernel_rfl)) (by kernel_rfl)
theorem n9_91s : codeB Try.prog E cx n9_91 st = some (.normal, st) := GE.skip_step (by kernel_rfl)
theorem n9_89s : codeB Try.prog E cx n9_89 st = condS (codeB Try.prog E cx n9_90) (codeB Try.prog E cx n9_91) (lk st.σ 112) st := GE.cond_step (c := .tmp 112) (by kernel_rfl)
theorem n9_87s : codeB Try.prog E cx n9_87 st = thenS (codeB Try.prog E cx n9_88 st) (codeB Try.prog E cx n9_89) := GE.seq_step (by kernel_rfl)
theorem n9_85s : codeB Try.prog E cx n9_85 st = thenS (codeB Try.prog E cx n9_86 st) (codeB Try.prog E cx n9_87) := GE.seq_step (by kernel_rfl)
theorem n9_84s : codeB Try.prog E cx n9_84 st = blockS 5 (codeB Try.prog E cx n9_85 st) st := GE.block_step (by kernel_rfl)
theorem n9_92s : codeB Try.prog E ⟨f, 197, b, ro⟩ n9_92 st = plainS (runOps Try.prog E b q9_92 (ops [true, true, true, true, true, true, true, true, true, false, true, false, false, true, true, false, false, true, false, true, false, false, true, true, true] Try.f9) st) := GE.region_step (id := 26) (GE.reg_of (by kernel_rfl)) (by kernel_rfl)
theorem n9_83s : codeB Try.prog E cx n9_83 st = thenS (codeB Try.prog E cx n9_84 st) (codeB Try.prog E cx n9_92) := GE.seq_step (by kernel_rfl)
theorem n9_79s : codeB Try.prog E cx n9_79 st = thenS (codeB Try.prog E cx n9_80 st) (codeB Try.prog E cx n9_83) := GE.seq_step (by kernel_rfl)
theorem n9_77s : codeB Try.prog E cx n9_77 st = thenS (codeB Try.prog E cx n9_78 st) (codeB Try.prog E cx n9_79) := GE.seq_step (by kernel_rfl)
theorem n9_76k : LL.kp (⟨9, 197, b, ro⟩ : Cx).fn (4 * rid n9_77 + 3) = some ⟨[14, 89, 90, 91, 3, 5, 6, 9, 13, 86, 87], [⟨89, 0, 1, true⟩, ⟨9, 0, 1, true⟩]⟩ := by kernel_rfl
theorem n9_76s : codeB Try.prog LL ⟨9, 197, b, ro⟩ n9_76 st = headS b ⟨[14, 89, 90, 91, 3, 5, 6, 9, 13, 86, 87], [⟨89, 0, 1, true⟩, ⟨9, 0, 1, true⟩]⟩ st (lpB Try.prog LL ⟨9, 197, b, ro⟩ n9_76 n9_77) := GE.lpB_step (by kernel_rfl) (n9_76k b ro)
theorem n9_76g : LL.code ⟨9, 197, b, ro⟩ n9_76 st = headS b ⟨[14, 89, 90, 91, 3, 5, 6, 9, 13, 86, 87], [⟨89, 0, 1, true⟩, ⟨9, 0, 1, true⟩]⟩ st (lpB Try.prog LL ⟨9, 197, b, ro⟩ n9_76 n9_77) := GE.lpB_again (by kernel_rfl) (n9_76k b ro)
theorem n9_75s : codeB Try.prog E cx n9_75 st = blockS 4 (codeB Try.prog E cx n9_76 st) st := GE.block_step (by kernel_rfl)
theorem n9_73s : codeB Try.prog E cx n9_73 st = thenS (codeB Try.prog E cx n9_74 st) (codeB Try.prog E cx n9_75) := GE.seq_step (by kernel_rfl)
theorem n9_94s : codeB Try.prog E ⟨f, 197, b, ro⟩ n9_94 st = plainS (runOps Try.prog E b q9_94 (ops [true, true, true, true, true, true, true, true, true, false, true, false, false, true, true, false, false, true, true, false] Try.f9) st) := GE.region_step (id := 27) (GE.reg_of (by kernel_rfl)) (by kernel_rfl)
theorem n9_95s : codeB Try.prog E ⟨f, 197, b, ro⟩ n9_95 st = plainS (runOps Try.prog E b q9_95 (ops [true, true, true, true, true, true, true, true, true, false, true, false, false, true, true, false, false, true, true, true] Try.f9) st) := GE.region_step (id := 28) (GE.reg_of (by kernel_rfl)) (by kernel_rfl)
theorem n9_93s : codeB Try.prog E cx n9_93 st = thenS (codeB Try.prog E cx n9_94 st) (codeB Try.prog E cx n9_95) := GE.seq_step (by kernel_rfl)
theorem n9_72s : codeB Try.prog E cx n9_72 st = thenS (codeB Try.prog E cx n9_73 st) (codeB Try.prog E cx n9_93) := GE.seq_step (by kernel_rfl)
theorem n9_70s : codeB Try.prog E cx n9_70 st = thenS (codeB Try.prog E cx n9_71 st) (codeB Try.prog E cx n9_72) := GE.seq_step (by kernel_rfl)
theorem n9_69s : codeB Try.prog E cx n9_69 st = blockS 3 (codeB Try.prog E cx n9_70 st) st := GE.block_step (by kernel_rfl)
theorem n9_96s : codeB Try.prog E ⟨f, 197, b, ro⟩ n9_96 st = plainS (runOps Try.prog E b q9_96 (ops [true, true, true, true, true, true, true, true, true, false, true, false, false, true, true, true] Try.f9) st) := GE.region_step (id := 29) (GE.reg_of (by kernel_rfl)) (by kernel_rfl)
theorem n9_68s : codeB Try.prog E cx n9_68 st = thenS (codeB Try.prog E cx n9_69 st) (codeB Try.prog E cx n9_96) := GE.seq_step (by kernel_rfl)
theorem n9_64s : codeB Try.prog E cx n9_64 st = thenS (codeB Try.prog E cx n9_65 st) (codeB Try.prog E cx n9_68) := GE.seq_step (by kernel_rfl)
theorem n9_62s : codeB Try.prog E cx n9_62 st = thenS (codeB Try.prog E cx n9_63 st) (codeB Try.prog E cx n9_64) := GE.seq_step (by kernel_rfl)
theorem n9_61k : LL.kp (⟨9, 197, b, ro⟩ : Cx).fn (4 * rid n9_62 + 3) = some ⟨[3, 5, 6, 9, 13, 86, 87], [⟨9, 0, 1, true⟩]⟩ := by kernel_rfl
theorem n9_61s : codeB Try.prog LL ⟨9, 197, b, ro⟩ n9_61 st = headS b ⟨[3, 5, 6, 9, 13, 86, 87], [⟨9, 0, 1, true⟩]⟩ st (lpB Try.prog LL ⟨9, 197, b, ro⟩ n9_61 n9_62) := GE.lpB_step (by kernel_rfl) (n9_61k b ro)
theorem n9_61g : LL.code ⟨9, 197, b, ro⟩ n9_61 st = headS b ⟨[3, 5, 6, 9, 13, 86, 87], [⟨9, 0, 1, true⟩]⟩ st (lpB Try.prog LL ⟨9, 197, b, ro⟩ n9_61 n9_62) := GE.lpB_again (by kernel_rfl) (n9_61k b ro)
theorem n9_60s : codeB Try.prog E cx n9_60 st = blockS 2 (codeB Try.prog E cx n9_61 st) st := GE.block_step (by kernel_rfl)
theorem n9_58s : codeB Try.prog E cx n9_58 st = thenS (codeB Try.prog E cx n9_59 st) (codeB Try.prog E cx n9_60) := GE.seq_step (by kernel_rfl)
theorem n9_99s : codeB Try.prog E ⟨f, 197, b, ro⟩ n9_99 st = plainS (runOps Try.prog E b q9_99 (ops [true, true, true, true, true, true, true, true, true, true, false, false] Try.f9) st) := GE.region_step (id := 30) (GE.reg_of (by kernel_rfl)) (by kernel_rfl)
theorem n9_102s : codeB Try.prog E ⟨f, 197, b, ro⟩ n9_102 st = plainS (runOps Try.prog E b q9_102 (ops [true, true, true, true, true, true, true, true, true, true, false, true, false, false] Try.f9) st) := GE.region_step (id := 31) (GE.reg_of (by kernel_rfl)) (by kernel_rfl)
theorem n9_103s : codeB Try.prog LL ⟨9, 197, b, ro⟩ n9_103 st = normS b ⟨[4], []⟩ .ret st := GE.ret_step (by kernel_rfl) (by kernel_rfl)
theorem n9_101s : codeB Try.prog E cx n9_101 st = thenS (codeB Try.prog E cx n9_102 st) (codeB Try.prog E cx n9_103) := GE.seq_step (by kernel_rfl)
theorem n9_104s : codeB Try.prog E cx n9_104 st = some (.normal, st) := GE.skip_step (by kernel_rfl)
theorem n9_100s : codeB Try.prog E cx n9_100 st = condS (codeB Try.prog E cx n9_101) (codeB Try.prog E cx n9_104) (lk st.σ 127) st := GE.cond_step (c := .tmp 127) (by kernel_rfl)
theorem n9_98s : codeB Try.prog E cx n9_98 st = thenS (codeB Try.prog E cx n9_99 st) (codeB Try.prog E cx n9_100) := GE.seq_step (by kernel_rfl)
theorem n9_107s : codeB Try.prog E ⟨f, 197, b, ro⟩ n9_107 st = plainS (runOps Try.prog E b q9_107 (ops [true, true, true, true, true, true, true, true, true, true, true, false, false] Try.f9) st) := GE.region_step (id := 32) (GE.reg_of (by kernel_rfl)) (by kernel_rfl)
theorem n9_110s : codeB Try.prog E ⟨f, 197, b, ro⟩ n9_110 st = plainS (runOps Try.prog E b q9_110 (ops [true, true, true, true, true, true, true, true, true, true, true, false, true, false, false] Try.f9) st) := GE.region_step (id := 33) (GE.reg_of (by kernel_rfl)) (by kernel_rfl)
theorem n9_115s : codeB Try.prog E ⟨f, 197, b, ro⟩ n9_115 st = plainS (runOps Try.prog E b q9_115 (ops [true, true, true, true, true, true, true, true, true, true, true, false, true, false, true, false, false, false, false] Try.f9) st) := GE.region_step (id := 34) (GE.reg_of (by kernel_rfl)) (by kernel_rfl)
theorem n9_117s : codeB Try.prog E cx n9_117 st = some (.normal, st) := GE.skip_step (by kernel_rfl)
theorem n9_118s : codeB Try.prog LL ⟨9, 197, b, ro⟩ n9_118 st = normS b ⟨[3], []⟩ (.exit 6) st := GE.exit_step (by kernel_rfl) (by kernel_rfl)
theorem n9_116s : codeB Try.prog E cx n9_116 st = condS (codeB Try.prog E cx n9_117) (codeB Try.prog E cx n9_118) (lk st.σ 134) st := GE.cond_step (c := .tmp 134) (by kernel_rfl)
theorem n9_114s : codeB Try.prog E cx n9_114 st = thenS (codeB Try.prog E cx n9_115 st) (codeB Try.prog E cx n9_116) := GE.seq_step (by kernel_rfl)
theorem n9_122s : codeB Try.prog E ⟨f, 197, b, ro⟩ n9_122 st = plainS (runOps Try.prog E b q9_122 (ops [true, true, true, true, true, true, true, true, true, true, true, false, true, false, true, false, false, true, false, false, false] Try.f9) st) := GE.region_step (id := 36) (GE.reg_of (by kernel_rfl)) (by kernel_rfl)
theorem n9_125s : codeB Try.prog E ⟨f, 197, b, ro⟩ n9_125 st = plainS (runOps Try.prog E b q9_125 (ops [true, true, true, true, true, true, true, true, true, true, true, false, true, false, true, false, false, true, false, false, true, false, false] Try.f9) st) := GE.region_step (id := 37) (GE.reg_of (by kernel_rfl)) (by kernel_rfl)
theorem n9_129s : codeB Try.prog E ⟨f, 197, b, ro⟩ n9_129 st = plainS (runOps Try.prog E b q9_129 (ops [true, true, true, true, true, true, true, true, true, true, true, false, true, false, true, false, false, true, false, false, true, false, true, false, false, false] Try.f9) st) := GE.region_step (id := 38) (GE.reg_of (by kernel_rfl)) (by kernel_rfl)
theorem n9_132s : codeB Try.prog E cx n9_132 st = some (.normal, st) := GE.skip_step (by kernel_rfl)
theorem n9_133s : codeB Try.prog LL ⟨9, 197, b, ro⟩ n9_133 st = normS b ⟨[18, 3, 5, 6, 17], [⟨18, 0, 1, true⟩]⟩ (.exit 8) st := GE.exit_step (by kernel_rfl) (by kernel_rfl)
theorem n9_131s : codeB Try.prog E cx n9_131 st = condS (codeB Try.prog E cx n9_132) (codeB Try.prog E cx n9_133) (lk st.σ 143) st := GE.cond_step (c := .tmp 143) (by kernel_rfl)
theorem n9_137s : codeB Try.prog E ⟨f, 197, b, ro⟩ n9_137 st = plainS (runOps Try.prog E b q9_137 (ops [true, true, true, true, true, true, true, true, true, true, true, false, true, false, true, false, false, true, false, false, true, false, true, false, false, true, true, false, false, false] Try.f9) st) := GE.region_step (id := 39) (GE.reg_of (by kernel_rfl)) (by kernel_rfl)
theorem n9_138s : codeB Try.prog E ⟨f, 197, b, ro⟩ n9_138 st = plainS (runOps Try.prog E b q9_138 (ops [true, true, true, true, true, true, true, true, true, true, true, false, true, false, true, false, false, true, false, false, true, false, true, false, false, true, true, false, false, true] Try.f9) st) := GE.region_step (id := 40) (GE.reg_of (by kernel_rfl)) (by kernel_rfl)
theorem n9_136s : codeB Try.prog E cx n9_136 st = thenS (codeB Try.prog E cx n9_137 st) (codeB Try.prog E cx n9_138) := GE.seq_step (by kernel_rfl)
theorem n9_135s : codeB Try.prog E cx n9_135 st = blockS 9 (codeB Try.prog E cx n9_136 st) st := GE.block_step (by kernel_rfl)
theorem n9_139s : codeB Try.prog E ⟨f, 197, b, ro⟩ n9_139 st = plainS (runOps Try.prog E b q9_139 (ops [true, true, true, true, true, true, true, true, true, true, true, false, true, false, true, false, false, true, false, false, true, false, true, false, false, true, true, true] Try.f9) st) := GE.region_step (id := 41) (GE.reg_of (by kernel_rfl)) (by kernel_rfl)
theorem n9_134s : codeB Try.prog E cx n9_134 st = thenS (codeB Try.prog E cx n9_135 st) (codeB Try.prog E cx n9_139) := GE.seq_step (by kernel_rfl)
theorem n9_130s : codeB Try.prog E cx n9_130 st = thenS (codeB Try.prog E cx n9_131 st) (codeB Try.prog E cx n9_134) := GE.seq_step (by kernel_rfl)
theorem n9_128s : codeB Try.prog E cx n9_128 st = thenS (codeB Try.prog E cx n9_129 st) (codeB Try.prog E cx n9_130) := GE.seq_step (by kernel_rfl)
theorem n9_127k : LL.kp (⟨9, 197, b, ro⟩ : Cx).fn (4 * rid n9_128 + 3) = some ⟨[18, 141, 142, 3, 5, 6, 17], [⟨18, 0, 1, true⟩]⟩ := by kernel_rfl
theorem n9_127s : codeB Try.prog LL ⟨9, 197, b, ro⟩ n9_127 st = headS b ⟨[18, 141, 142, 3, 5, 6, 17], [⟨18, 0, 1, true⟩]⟩ st (lpB Try.prog LL ⟨9, 197, b, ro⟩ n9_127 n9_128) := GE.lpB_step (by kernel_rfl) (n9_127k b ro)
theorem n9_127g : LL.code ⟨9, 197, b, ro⟩ n9_127 st = headS b ⟨[18, 141, 142, 3, 5, 6, 17], [⟨18, 0, 1, true⟩]⟩ st (lpB Try.prog LL ⟨9, 197, b, ro⟩ n9_127 n9_128) := GE.lpB_again (by kernel_rfl) (n9_127k b ro)
theorem n9_126s : codeB Try.prog E cx n9_126 st = blockS 8 (codeB Try.prog E cx n9_127 st) st := GE.block_step (by kernel_rfl)
theorem n9_124s : codeB Try.prog E cx n9_124 st = thenS (codeB Try.prog E cx n9_125 st) (codeB Try.prog E cx n9_126) := GE.seq_step (by kernel_rfl)
theorem n9_141s : codeB Try.prog E ⟨f, 197, b, ro⟩ n9_141 st = plainS (runOps Try.prog E b q9_141 (ops [true, true, true, true, true, true, true, true, true, true, true, false, true, false, true, false, false, true, false, false, true, true, false] Try.f9) st) := GE.region_step (id := 42) (GE.reg_of (by kernel_rfl)) (by kernel_rfl)
theorem q9_143g3 : gd q9_143 3 = some 160 := by kernel_rfl
theorem n9_143s : codeB Try.prog E ⟨f, 197, b, ro⟩ n9_143 st = plainS (runOps Try.prog E b q9_143 (ops [true, true, true, true, true, true, true, true, true, true, true, false, true, false, true, false, false, true, false, false, true, true, true, false] Try.f9) st) := GE.region_step (id := 43) (GE.reg_of (by kernel_rfl)) (by kernel_rfl)
theorem n9_146s : codeB Try.prog E ⟨f, 197, b, ro⟩ n9_146 st = plainS (runOps Try.prog E b q9_146 (ops [true, true, true, true, true, true, true, true, true, true, true, false, true, false, true, false, false, true, false, false, true, true, true, true, false, false] Try.f9) st) := GE.region_step (id := 44) (GE.reg_of (by kernel_rfl)) (by kernel_rfl)
theorem n9_147s : codeB Try.prog LL ⟨9, 197, b, ro⟩ n9_147 st = normS b ⟨[4], []⟩ .ret st := GE.ret_step (by kernel_rfl) (by kernel_rfl)
theorem n9_145s : codeB Try.prog E cx n9_145 st = thenS (codeB Try.prog E cx n9_146 st) (codeB Try.prog E cx n9_147) := GE.seq_step (by kernel_rfl)
theorem n9_148s : codeB Try.prog E cx n9_148 st = some (.normal, st) := GE.skip_step (by kernel_rfl)
theorem n9_144s : codeB Try.prog E cx n9_144 st = condS (codeB Try.prog E cx n9_145) (codeB Try.prog E cx n9_148) (lk st.σ 165) st := GE.cond_step (c := .tmp 165) (by kernel_rfl)
theorem n9_142s : codeB Try.prog E cx n9_142 st = thenS (codeB Try.prog E cx n9_143 st) (codeB Try.prog E cx n9_144) := GE.seq_step (by kernel_rfl)
theorem n9_140s : codeB Try.prog E cx n9_140 st = thenS (codeB Try.prog E cx n9_141 st) (codeB Try.prog E cx n9_142) := GE.seq_step (by kernel_rfl)
theorem n9_123s : codeB Try.prog E cx n9_123 st = thenS (codeB Try.prog E cx n9_124 st) (codeB Try.prog E cx n9_140) := GE.seq_step (by kernel_rfl)
theorem n9_121s : codeB Try.prog E cx n9_121 st = thenS (codeB Try.prog E cx n9_122 st) (codeB Try.prog E cx n9_123) := GE.seq_step (by kernel_rfl)
theorem n9_120s : codeB Try.prog E cx n9_120 st = blockS 7 (codeB Try.prog E cx n9_121 st) st := GE.block_step (by kernel_rfl)
theorem n9_149s : codeB Try.prog E ⟨f, 197, b, ro⟩ n9_149 st = plainS (runOps Try.prog E b q9_149 (ops [true, true, true, true, true, true, true, true, true, true, true, false, true, false, true, false, false, true, true] Try.f9) st) := GE.region_step (id := 35) (GE.reg_of (by kernel_rfl)) (by kernel_rfl)
theorem n9_119s : codeB Try.prog E cx n9_119 st = thenS (codeB Try.prog E cx n9_120 st) (codeB Try.prog E cx n9_149) := GE.seq_step (by kernel_rfl)
theorem n9_113s : codeB Try.prog E cx n9_113 st = thenS (codeB Try.prog E cx n9_114 st) (codeB Try.prog E cx n9_119) := GE.seq_step (by kernel_rfl)
theorem n9_112k : LL.kp (⟨9, 197, b, ro⟩ : Cx).fn (4 * rid n9_113 + 3) = some ⟨[3, 5, 6, 17], []⟩ := by kernel_rfl
theorem n9_112s : codeB Try.prog LL ⟨9, 197, b, ro⟩ n9_112 st = headS b ⟨[3, 5, 6, 17], []⟩ st (lpB Try.prog LL ⟨9, 197, b, ro⟩ n9_112 n9_113) := GE.lpB_step (by kernel_rfl) (n9_112k b ro)
theorem n9_112g : LL.code ⟨9, 197, b, ro⟩ n9_112 st = headS b ⟨[3, 5, 6, 17], []⟩ st (lpB Try.prog LL ⟨9, 197, b, ro⟩ n9_112 n9_113) := GE.lpB_again (by kernel_rfl) (n9_112k b ro)
theorem n9_111s : codeB Try.prog E cx n9_111 st = blockS 6 (codeB Try.prog E cx n9_112 st) st := GE.block_step (by kernel_rfl)
theorem n9_109s : codeB Try.prog E cx n9_109 st = thenS (codeB Try.prog E cx n9_110 st) (codeB Try.prog E cx n9_111) := GE.seq_step (by kernel_rfl)
theorem n9_150s : codeB Try.prog E cx n9_150 st = some (.normal, st) := GE.skip_step (by kernel_rfl)
theorem n9_108s : codeB Try.prog E cx n9_108 st = condS (codeB Try.prog E cx n9_109) (codeB Try.prog E cx n9_150) (lk st.σ 129) st := GE.cond_step (c := .tmp 129) (by kernel_rfl)
theorem n9_106s : codeB Try.prog E cx n9_106 st = thenS (codeB Try.prog E cx n9_107 st) (codeB Try.prog E cx n9_108) := GE.seq_step (by kernel_rfl)
theorem n9_152s : codeB Try.prog E ⟨f, 197, b, ro⟩ n9_152 st = plainS (runOps Try.prog E b q9_152 (ops [true, true, true, true, true, true, true, true, true, true, true, true, false] Try.f9) st) := GE.region_step (id := 45) (GE.reg_of (by kernel_rfl)) (by kernel_rfl)
theorem n9_154s : codeB Try.prog E ⟨f, 197, b, ro⟩ n9_154 st = plainS (runOps Try.prog E b q9_154 (ops [true, true, true, true, true, true, true, true, true, true, true, true, true, false] Try.f9) st) := GE.region_step (id := 46) (GE.reg_of (by kernel_rfl)) (by kernel_rfl)
theorem q9_156g2 : gd q9_156 2 = some 175 := by kernel_rfl
theorem q9_156g5 : gd q9_156 5 = some 178 := by kernel_rfl
theorem q9_156g9 : gd q9_156 9 = some 182 := by kernel_rfl
theorem q9_156g12 : gd q9_156 12 = some 185 := by kernel_rfl
theorem q9_156g21 : gd q9_156 21 = some 194 := by kernel_rfl
theorem n9_156s : codeB Try.prog E ⟨f, 197, b, ro⟩ n9_156 st = plainS (runOps Try.prog E b q9_156 (ops [true, true, true, true, true, true, true, true, true, true, true, true, true, true, false] Try.f9) st) := GE.region_step (id := 47) (GE.reg_of (by kernel_rfl)) (by kernel_rfl)
theorem n9_157s : codeB Try.prog LL ⟨9, 197, b, ro⟩ n9_157 st = normS b ⟨[4], []⟩ .ret st := GE.ret_step (by kernel_rfl) (by kernel_rfl)
theorem n9_155s : codeB Try.prog E cx n9_155 st = thenS (codeB Try.prog E cx n9_156 st) (codeB Try.prog E cx n9_157) := GE.seq_step (by kernel_rfl)
theorem n9_153s : codeB Try.prog E cx n9_153 st = thenS (codeB Try.prog E cx n9_154 st) (codeB Try.prog E cx n9_155) := GE.seq_step (by kernel_rfl)
theorem n9_151s : codeB Try.prog E cx n9_151 st = thenS (codeB Try.prog E cx n9_152 st) (codeB Try.prog E cx n9_153) := GE.seq_step (by kernel_rfl)
theorem n9_105s : codeB Try.prog E cx n9_105 st = thenS (codeB Try.prog E cx n9_106 st) (codeB Try.prog E cx n9_151) := GE.seq_step (by kernel_rfl)
theorem n9_97s : codeB Try.prog E cx n9_97 st = thenS (codeB Try.prog E cx n9_98 st) (codeB Try.prog E cx n9_105) := GE.seq_step (by kernel_rfl)
theorem n9_57s : codeB Try.prog E cx n9_57 st = thenS (codeB Try.prog E cx n9_58 st) (codeB Try.prog E cx n9_97) := GE.seq_step (by kernel_rfl)
theorem n9_55s : codeB Try.prog E cx n9_55 st = thenS (codeB Try.prog E cx n9_56 st) (codeB Try.prog E cx n9_57) := GE.seq_step (by kernel_rfl)
theorem n9_26s : codeB Try.prog E cx n9_26 st = thenS (codeB Try.prog E cx n9_27 st) (codeB Try.prog E cx n9_55) := GE.seq_step (by kernel_rfl)
theorem n9_24s : codeB Try.prog E cx n9_24 st = thenS (codeB Try.prog E cx n9_25 st) (codeB Try.prog E cx n9_26) := GE.seq_step (by kernel_rfl)
theorem n9_16s : codeB Try.prog E cx n9_16 st = thenS (codeB Try.prog E cx n9_17 st) (codeB Try.prog E cx n9_24) := GE.seq_step (by kernel_rfl)
theorem n9_14s : codeB Try.prog E cx n9_14 st = thenS (codeB Try.prog E cx n9_15 st) (codeB Try.prog E cx n9_16) := GE.seq_step (by kernel_rfl)
theorem n9_6s : codeB Try.prog E cx n9_6 st = thenS (codeB Try.prog E cx n9_7 st) (codeB Try.prog E cx n9_14) := GE.seq_step (by kernel_rfl)
theorem n9_4s : codeB Try.prog E cx n9_4 st = thenS (codeB Try.prog E cx n9_5 st) (codeB Try.prog E cx n9_6) := GE.seq_step (by kernel_rfl)
theorem n9_2s : codeB Try.prog E cx n9_2 st = thenS (codeB Try.prog E cx n9_3 st) (codeB Try.prog E cx n9_4) := GE.seq_step (by kernel_rfl)
theorem n9_0s : codeB Try.prog E cx n9_0 st = thenS (codeB Try.prog E cx n9_1 st) (codeB Try.prog E cx n9_2) := GE.seq_step (by kernel_rfl)
noncomputable def n19_0 : Code := bodyOf Try.f19
noncomputable def n19_1 : Code := cl n19_0
noncomputable def q19_1 : List Oper := opsOf n19_1
noncomputable def n19_2 : Code := cr n19_0
noncomputable def n19_3 : Code := cl n19_2
noncomputable def n19_4 : Code := cl n19_3
noncomputable def q19_4 : List Oper := opsOf n19_4
noncomputable def n19_5 : Code := cr n19_3
noncomputable def n19_6 : Code := cl n19_5
noncomputable def q19_6 : List Oper := opsOf n19_6
noncomputable def n19_7 : Code := cr n19_5
noncomputable def n19_8 : Code := cl n19_7
noncomputable def n19_9 : Code := cl n19_8
noncomputable def q19_9 : List Oper := opsOf n19_9
noncomputable def n19_10 : Code := cr n19_8
noncomputable def n19_11 : Code := cr n19_7
noncomputable def n19_12 : Code := cr n19_2
noncomputable def n19_13 : Code := cl n19_12
noncomputable def n19_14 : Code := cl n19_13
noncomputable def q19_14 : List Oper := opsOf n19_14
noncomputable def n19_15 : Code := cr n19_13
noncomputable def n19_16 : Code := cl n19_15
noncomputable def n19_17 : Code := cl n19_16
noncomputable def n19_18 : Code := cl n19_17
noncomputable def q19_18 : List Oper := opsOf n19_18
noncomputable def n19_19 : Code := cr n19_17
noncomputable def n19_20 : Code := cl n19_19
noncomputable def n19_21 : Code := cl n19_20
noncomputable def n19_22 : Code := cr n19_20
noncomputable def n19_23 : Code := cr n19_19
noncomputable def n19_24 : Code := cl n19_23
noncomputable def n19_25 : Code := cl n19_24
noncomputable def n19_26 : Code := cl n19_25
noncomputable def q19_26 : List Oper := opsOf n19_26
noncomputable def n19_27 : Code := cr n19_25
noncomputable def n19_28 : Code := cl n19_27
noncomputable def q19_28 : List Oper := opsOf n19_28
noncomputable def n19_29 : Code := cr n19_27
noncomputable def n19_30 : Code := cl n19_29
noncomputable def n19_31 : Code := cl n19_30
noncomputable def q19_31 : List Oper := opsOf n19_31
noncomputable def n19_32 : Code := cr n19_30
noncomputable def n19_33 : Code := cr n19_29
noncomputable def n19_34 : Code := cr n19_23
noncomputable def q19_34 : List Oper := opsOf n19_34
noncomputable def n19_35 : Code := cr n19_12
noncomputable def n19_36 : Code := cl n19_35
noncomputable def q19_36 : List Oper := opsOf n19_36
noncomputable def n19_37 : Code := cr n19_35
theorem body19 : Try.f19.body = some n19_0 := by kernel_rfl
theorem run19 (E : Ev) (args : List Value) (h : List Blk) (hl : args.length ≤ 22) : runB Try.prog E 19 args h = endS Try.prog [.tmp 2, .tmp 3] h.length (codeB Try.prog E ⟨19, 22, h.length, none⟩ n19_0 ⟨enumT 0 args, h, []⟩) := GE.run_step Try.func19 body19 (by kernel_rfl) (by decide) (by kernel_rfl) hl
theorem n19_1s : codeB Try.prog E ⟨f, 22, b, ro⟩ n19_1 st = plainS (runOps Try.prog E b q19_1 (ops [false] Try.f19) st) := GE.region_step (id := 0) (GE.reg_of (by kernel_rfl)) (by kernel_rfl)
theorem n19_4s : codeB Try.prog E ⟨f, 22, b, ro⟩ n19_4 st = plainS (runOps Try.prog E b q19_4 (ops [true, false, false] Try.f19) st) := GE.region_step (id := 1) (GE.reg_of (by kernel_rfl)) (by kernel_rfl)
theorem n19_6s : codeB Try.prog E ⟨f, 22, b, ro⟩ n19_6 st = plainS (runOps Try.prog E b q19_6 (ops [true, false, true, false] Try.f19) st) := GE.region_step (id := 2) (GE.reg_of (by kernel_rfl)) (by kernel_rfl)
theorem n19_9s : codeB Try.prog E ⟨f, 22, b, ro⟩ n19_9 st = plainS (runOps Try.prog E b q19_9 (ops [true, false, true, true, false, false] Try.f19) st) := GE.region_step (id := 3) (GE.reg_of (by kernel_rfl)) (by kernel_rfl)
theorem n19_10s : codeB Try.prog LL ⟨19, 22, b, ro⟩ n19_10 st = normS b ⟨[2, 3], []⟩ .ret st := GE.ret_step (by kernel_rfl) (by kernel_rfl)
theorem n19_8s : codeB Try.prog E cx n19_8 st = thenS (codeB Try.prog E cx n19_9 st) (codeB Try.prog E cx n19_10) := GE.seq_step (by kernel_rfl)
theorem n19_11s : codeB Try.prog E cx n19_11 st = some (.normal, st) := GE.skip_step (by kernel_rfl)
theorem n19_7s : codeB Try.prog E cx n19_7 st = condS (codeB Try.prog E cx n19_8) (codeB Try.prog E cx n19_11) (lk st.σ 9) st := GE.cond_step (c := .tmp 9) (by kernel_rfl)
theorem n19_5s : codeB Try.prog E cx n19_5 st = thenS (codeB Try.prog E cx n19_6 st) (codeB Try.prog E cx n19_7) := GE.seq_step (by kernel_rfl)
theorem n19_3s : codeB Try.prog E cx n19_3 st = thenS (codeB Try.prog E cx n19_4 st) (codeB Try.prog E cx n19_5) := GE.seq_step (by kernel_rfl)
theorem n19_14s : codeB Try.prog E ⟨f, 22, b, ro⟩ n19_14 st = plainS (runOps Try.prog E b q19_14 (ops [true, true, false, false] Try.f19) st) := GE.region_step (id := 4) (GE.reg_of (by kernel_rfl)) (by kernel_rfl)
theorem n19_18s : codeB Try.prog E ⟨f, 22, b, ro⟩ n19_18 st = plainS (runOps Try.prog E b q19_18 (ops [true, true, false, true, false, false, false] Try.f19) st) := GE.region_step (id := 5) (GE.reg_of (by kernel_rfl)) (by kernel_rfl)
theorem n19_21s : codeB Try.prog E cx n19_21 st = some (.normal, st) := GE.skip_step (by kernel_rfl)
theorem n19_22s : codeB Try.prog LL ⟨19, 22, b, ro⟩ n19_22 st = normS b ⟨[], []⟩ (.exit 0) st := GE.exit_step (by kernel_rfl) (by kernel_rfl)
theorem n19_20s : codeB Try.prog E cx n19_20 st = condS (codeB Try.prog E cx n19_21) (codeB Try.prog E cx n19_22) (lk st.σ 15) st := GE.cond_step (c := .tmp 15) (by kernel_rfl)
theorem n19_26s : codeB Try.prog E ⟨f, 22, b, ro⟩ n19_26 st = plainS (runOps Try.prog E b q19_26 (ops [true, true, false, true, false, false, true, true, false, false, false] Try.f19) st) := GE.region_step (id := 6) (GE.reg_of (by kernel_rfl)) (by kernel_rfl)
theorem n19_28s : codeB Try.prog E ⟨f, 22, b, ro⟩ n19_28 st = plainS (runOps Try.prog E b q19_28 (ops [true, true, false, true, false, false, true, true, false, false, true, false] Try.f19) st) := GE.region_step (id := 7) (GE.reg_of (by kernel_rfl)) (by kernel_rfl)
theorem n19_31s : codeB Try.prog E ⟨f, 22, b, ro⟩ n19_31 st = plainS (runOps Try.prog E b q19_31 (ops [true, true, false, true, false, false, true, true, false, false, true, true, false, false] Try.f19) st) := GE.region_step (id := 8) (GE.reg_of (by kernel_rfl)) (by kernel_rfl)
theorem n19_32s : codeB Try.prog LL ⟨19, 22, b, ro⟩ n19_32 st = normS b ⟨[2, 3], []⟩ .ret st := GE.ret_step (by kernel_rfl) (by kernel_rfl)
theorem n19_30s : codeB Try.prog E cx n19_30 st = thenS (codeB Try.prog E cx n19_31 st) (codeB Try.prog E cx n19_32) := GE.seq_step (by kernel_rfl)
theorem n19_33s : codeB Try.prog E cx n19_33 st = some (.normal, st) := GE.skip_step (by kernel_rfl)
theorem n19_29s : codeB Try.prog E cx n19_29 st = condS (codeB Try.prog E cx n19_30) (codeB Try.prog E cx n19_33) (lk st.σ 19) st := GE.cond_step (c := .tmp 19) (by kernel_rfl)
theorem n19_27s : codeB Try.prog E cx n19_27 st = thenS (codeB Try.prog E cx n19_28 st) (codeB Try.prog E cx n19_29) := GE.seq_step (by kernel_rfl)
theorem n19_25s : codeB Try.prog E cx n19_25 st = thenS (codeB Try.prog E cx n19_26 st) (codeB Try.prog E cx n19_27) := GE.seq_step (by kernel_rfl)
theorem n19_24s : codeB Try.prog E cx n19_24 st = blockS 1 (codeB Try.prog E cx n19_25 st) st := GE.block_step (by kernel_rfl)
theorem n19_34s : codeB Try.prog E ⟨f, 22, b, ro⟩ n19_34 st = plainS (runOps Try.prog E b q19_34 (ops [true, true, false, true, false, false, true, true, true] Try.f19) st) := GE.region_step (id := 9) (GE.reg_of (by kernel_rfl)) (by kernel_rfl)
theorem n19_23s : codeB Try.prog E cx n19_23 st = thenS (codeB Try.prog E cx n19_24 st) (codeB Try.prog E cx n19_34) := GE.seq_step (by kernel_rfl)
theorem n19_19s : codeB Try.prog E cx n19_19 st = thenS (codeB Try.prog E cx n19_20 st) (codeB Try.prog E cx n19_23) := GE.seq_step (by kernel_rfl)
theorem n19_17s : codeB Try.prog E cx n19_17 st = thenS (codeB Try.prog E cx n19_18 st) (codeB Try.prog E cx n19_19) := GE.seq_step (by kernel_rfl)
theorem n19_16k : LL.kp (⟨19, 22, b, ro⟩ : Cx).fn (4 * rid n19_17 + 3) = some ⟨[0, 13, 14], []⟩ := by kernel_rfl
theorem n19_16s : codeB Try.prog LL ⟨19, 22, b, ro⟩ n19_16 st = headS b ⟨[0, 13, 14], []⟩ st (lpB Try.prog LL ⟨19, 22, b, ro⟩ n19_16 n19_17) := GE.lpB_step (by kernel_rfl) (n19_16k b ro)
theorem n19_16g : LL.code ⟨19, 22, b, ro⟩ n19_16 st = headS b ⟨[0, 13, 14], []⟩ st (lpB Try.prog LL ⟨19, 22, b, ro⟩ n19_16 n19_17) := GE.lpB_again (by kernel_rfl) (n19_16k b ro)
theorem n19_15s : codeB Try.prog E cx n19_15 st = blockS 0 (codeB Try.prog E cx n19_16 st) st := GE.block_step (by kernel_rfl)
theorem n19_13s : codeB Try.prog E cx n19_13 st = thenS (codeB Try.prog E cx n19_14 st) (codeB Try.prog E cx n19_15) := GE.seq_step (by kernel_rfl)
theorem n19_36s : codeB Try.prog E ⟨f, 22, b, ro⟩ n19_36 st = plainS (runOps Try.prog E b q19_36 (ops [true, true, true, false] Try.f19) st) := GE.region_step (id := 10) (GE.reg_of (by kernel_rfl)) (by kernel_rfl)
theorem n19_37s : codeB Try.prog LL ⟨19, 22, b, ro⟩ n19_37 st = normS b ⟨[2, 3], []⟩ .ret st := GE.ret_step (by kernel_rfl) (by kernel_rfl)
theorem n19_35s : codeB Try.prog E cx n19_35 st = thenS (codeB Try.prog E cx n19_36 st) (codeB Try.prog E cx n19_37) := GE.seq_step (by kernel_rfl)
theorem n19_12s : codeB Try.prog E cx n19_12 st = thenS (codeB Try.prog E cx n19_13 st) (codeB Try.prog E cx n19_35) := GE.seq_step (by kernel_rfl)
theorem n19_2s : codeB Try.prog E cx n19_2 st = thenS (codeB Try.prog E cx n19_3 st) (codeB Try.prog E cx n19_12) := GE.seq_step (by kernel_rfl)
theorem n19_0s : codeB Try.prog E cx n19_0 st = thenS (codeB Try.prog E cx n19_1 st) (codeB Try.prog E cx n19_2) := GE.seq_step (by kernel_rfl)
noncomputable def n22_0 : Code := bodyOf Try.f22
noncomputable def n22_1 : Code := cl n22_0
noncomputable def q22_1 : List Oper := opsOf n22_1
noncomputable def n22_2 : Code := cr n22_0
noncomputable def n22_3 : Code := cl n22_2
noncomputable def n22_4 : Code := cl n22_3
noncomputable def n22_5 : Code := cl n22_4
noncomputable def q22_5 : List Oper := opsOf n22_5
noncomputable def n22_6 : Code := cr n22_4
noncomputable def n22_7 : Code := cl n22_6
noncomputable def n22_8 : Code := cl n22_7
noncomputable def q22_8 : List Oper := opsOf n22_8
noncomputable def n22_9 : Code := cr n22_7
noncomputable def n22_10 : Code := cr n22_6
noncomputable def n22_11 : Code := cl n22_10
noncomputable def q22_11 : List Oper := opsOf n22_11
noncomputable def n22_12 : Code := cr n22_10
noncomputable def n22_13 : Code := cl n22_12
noncomputable def n22_14 : Code := cl n22_13
noncomputable def q22_14 : List Oper := opsOf n22_14
noncomputable def n22_15 : Code := cr n22_13
noncomputable def n22_16 : Code := cr n22_12
noncomputable def n22_17 : Code := cl n22_16
noncomputable def q22_17 : List Oper := opsOf n22_17
noncomputable def n22_18 : Code := cr n22_16
noncomputable def n22_19 : Code := cl n22_18
noncomputable def n22_20 : Code := cl n22_19
noncomputable def q22_20 : List Oper := opsOf n22_20
noncomputable def n22_21 : Code := cr n22_19
noncomputable def n22_22 : Code := cr n22_18
noncomputable def n22_23 : Code := cr n22_2
noncomputable def n22_24 : Code := cl n22_23
noncomputable def q22_24 : List Oper := opsOf n22_24
noncomputable def n22_25 : Code := cr n22_23
theorem body22 : Try.f22.body = some n22_0 := by kernel_rfl
theorem run22 (E : Ev) (args : List Value) (h : List Blk) (hl : args.length ≤ 14) : runB Try.prog E 22 args h = endS Try.prog [.tmp 2] h.length (codeB Try.prog E ⟨22, 14, h.length, none⟩ n22_0 ⟨enumT 0 args, h, []⟩) := GE.run_step Try.func22 body22 (by kernel_rfl) (by decide) (by kernel_rfl) hl
theorem n22_1s : codeB Try.prog E ⟨f, 14, b, ro⟩ n22_1 st = plainS (runOps Try.prog E b q22_1 (ops [false] Try.f22) st) := GE.region_step (id := 0) (GE.reg_of (by kernel_rfl)) (by kernel_rfl)
theorem n22_5s : codeB Try.prog E ⟨f, 14, b, ro⟩ n22_5 st = plainS (runOps Try.prog E b q22_5 (ops [true, false, false, false] Try.f22) st) := GE.region_step (id := 1) (GE.reg_of (by kernel_rfl)) (by kernel_rfl)
theorem n22_8s : codeB Try.prog E ⟨f, 14, b, ro⟩ n22_8 st = plainS (runOps Try.prog E b q22_8 (ops [true, false, false, true, false, false] Try.f22) st) := GE.region_step (id := 2) (GE.reg_of (by kernel_rfl)) (by kernel_rfl)
theorem n22_9s : codeB Try.prog LL ⟨22, 14, b, ro⟩ n22_9 st = normS b ⟨[2], []⟩ .ret st := GE.ret_step (by kernel_rfl) (by kernel_rfl)
theorem n22_7s : codeB Try.prog E cx n22_7 st = thenS (codeB Try.prog E cx n22_8 st) (codeB Try.prog E cx n22_9) := GE.seq_step (by kernel_rfl)
theorem n22_11s : codeB Try.prog E ⟨f, 14, b, ro⟩ n22_11 st = plainS (runOps Try.prog E b q22_11 (ops [true, false, false, true, true, false] Try.f22) st) := GE.region_step (id := 3) (GE.reg_of (by kernel_rfl)) (by kernel_rfl)
theorem n22_14s : codeB Try.prog E ⟨f, 14, b, ro⟩ n22_14 st = plainS (runOps Try.prog E b q22_14 (ops [true, false, false, true, true, true, false, false] Try.f22) st) := GE.region_step (id := 4) (GE.reg_of (by kernel_rfl)) (by kernel_rfl)
theorem n22_15s : codeB Try.prog LL ⟨22, 14, b, ro⟩ n22_15 st = normS b ⟨[2], []⟩ .ret st := GE.ret_step (by kernel_rfl) (by kernel_rfl)
theorem n22_13s : codeB Try.prog E cx n22_13 st = thenS (codeB Try.prog E cx n22_14 st) (codeB Try.prog E cx n22_15) := GE.seq_step (by kernel_rfl)
theorem n22_17s : codeB Try.prog E ⟨f, 14, b, ro⟩ n22_17 st = plainS (runOps Try.prog E b q22_17 (ops [true, false, false, true, true, true, true, false] Try.f22) st) := GE.region_step (id := 5) (GE.reg_of (by kernel_rfl)) (by kernel_rfl)
theorem n22_20s : codeB Try.prog E ⟨f, 14, b, ro⟩ n22_20 st = plainS (runOps Try.prog E b q22_20 (ops [true, false, false, true, true, true, true, true, false, false] Try.f22) st) := GE.region_step (id := 6) (GE.reg_of (by kernel_rfl)) (by kernel_rfl)
theorem n22_21s : codeB Try.prog LL ⟨22, 14, b, ro⟩ n22_21 st = normS b ⟨[2], []⟩ .ret st := GE.ret_step (by kernel_rfl) (by kernel_rfl)
theorem n22_19s : codeB Try.prog E cx n22_19 st = thenS (codeB Try.prog E cx n22_20 st) (codeB Try.prog E cx n22_21) := GE.seq_step (by kernel_rfl)
theorem n22_22s : codeB Try.prog E cx n22_22 st = some (.normal, st) := GE.skip_step (by kernel_rfl)
theorem n22_18s : codeB Try.prog E cx n22_18 st = condS (codeB Try.prog E cx n22_19) (codeB Try.prog E cx n22_22) (lk st.σ 10) st := GE.cond_step (c := .tmp 10) (by kernel_rfl)
theorem n22_16s : codeB Try.prog E cx n22_16 st = thenS (codeB Try.prog E cx n22_17 st) (codeB Try.prog E cx n22_18) := GE.seq_step (by kernel_rfl)
theorem n22_12s : codeB Try.prog E cx n22_12 st = condS (codeB Try.prog E cx n22_13) (codeB Try.prog E cx n22_16) (lk st.σ 6) st := GE.cond_step (c := .tmp 6) (by kernel_rfl)
theorem n22_10s : codeB Try.prog E cx n22_10 st = thenS (codeB Try.prog E cx n22_11 st) (codeB Try.prog E cx n22_12) := GE.seq_step (by kernel_rfl)
theorem n22_6s : codeB Try.prog E cx n22_6 st = condS (codeB Try.prog E cx n22_7) (codeB Try.prog E cx n22_10) (lk st.σ 3) st := GE.cond_step (c := .tmp 3) (by kernel_rfl)
theorem n22_4s : codeB Try.prog E cx n22_4 st = thenS (codeB Try.prog E cx n22_5 st) (codeB Try.prog E cx n22_6) := GE.seq_step (by kernel_rfl)
theorem n22_3s : codeB Try.prog E cx n22_3 st = blockS 0 (codeB Try.prog E cx n22_4 st) st := GE.block_step (by kernel_rfl)
theorem n22_24s : codeB Try.prog E ⟨f, 14, b, ro⟩ n22_24 st = plainS (runOps Try.prog E b q22_24 (ops [true, true, false] Try.f22) st) := GE.region_step (id := 7) (GE.reg_of (by kernel_rfl)) (by kernel_rfl)
theorem n22_25s : codeB Try.prog LL ⟨22, 14, b, ro⟩ n22_25 st = normS b ⟨[2], []⟩ .ret st := GE.ret_step (by kernel_rfl) (by kernel_rfl)
theorem n22_23s : codeB Try.prog E cx n22_23 st = thenS (codeB Try.prog E cx n22_24 st) (codeB Try.prog E cx n22_25) := GE.seq_step (by kernel_rfl)
theorem n22_2s : codeB Try.prog E cx n22_2 st = thenS (codeB Try.prog E cx n22_3 st) (codeB Try.prog E cx n22_23) := GE.seq_step (by kernel_rfl)
theorem n22_0s : codeB Try.prog E cx n22_0 st = thenS (codeB Try.prog E cx n22_1 st) (codeB Try.prog E cx n22_2) := GE.seq_step (by kernel_rfl)
noncomputable def n33_0 : Code := bodyOf Try.f33
noncomputable def n33_1 : Code := cl n33_0
noncomputable def q33_1 : List Oper := opsOf n33_1
noncomputable def n33_2 : Code := cr n33_0
noncomputable def n33_3 : Code := cl n33_2
noncomputable def q33_3 : List Oper := opsOf n33_3
noncomputable def n33_4 : Code := cr n33_2
noncomputable def n33_5 : Code := cl n33_4
noncomputable def q33_5 : List Oper := opsOf n33_5
noncomputable def n33_6 : Code := cr n33_4
noncomputable def n33_7 : Code := cl n33_6
noncomputable def n33_8 : Code := cl n33_7
noncomputable def q33_8 : List Oper := opsOf n33_8
noncomputable def n33_9 : Code := cr n33_7
noncomputable def n33_10 : Code := cl n33_9
noncomputable def n33_11 : Code := cl n33_10
noncomputable def n33_12 : Code := cl n33_11
noncomputable def q33_12 : List Oper := opsOf n33_12
noncomputable def n33_13 : Code := cr n33_11
noncomputable def n33_14 : Code := cl n33_13
noncomputable def n33_15 : Code := cl n33_14
noncomputable def n33_16 : Code := cr n33_14
noncomputable def n33_17 : Code := cr n33_13
noncomputable def n33_18 : Code := cl n33_17
noncomputable def n33_19 : Code := cl n33_18
noncomputable def n33_20 : Code := cl n33_19
noncomputable def q33_20 : List Oper := opsOf n33_20
noncomputable def n33_21 : Code := cr n33_19
noncomputable def q33_21 : List Oper := opsOf n33_21
noncomputable def n33_22 : Code := cr n33_17
noncomputable def q33_22 : List Oper := opsOf n33_22
noncomputable def n33_23 : Code := cr n33_6
noncomputable def n33_24 : Code := cl n33_23
noncomputable def q33_24 : List Oper := opsOf n33_24
noncomputable def n33_25 : Code := cr n33_23
theorem body33 : Try.f33.body = some n33_0 := by kernel_rfl
theorem run33 (E : Ev) (args : List Value) (h : List Blk) (hl : args.length ≤ 41) : runB Try.prog E 33 args h = endS Try.prog [.tmp 6] h.length (codeB Try.prog E ⟨33, 41, h.length, none⟩ n33_0 ⟨enumT 0 args, h, []⟩) := GE.run_step Try.func33 body33 (by kernel_rfl) (by decide) (by kernel_rfl) hl
theorem n33_1s : codeB Try.prog E ⟨f, 41, b, ro⟩ n33_1 st = plainS (runOps Try.prog E b q33_1 (ops [false] Try.f33) st) := GE.region_step (id := 0) (GE.reg_of (by kernel_rfl)) (by kernel_rfl)
theorem n33_3s : codeB Try.prog E ⟨f, 41, b, ro⟩ n33_3 st = plainS (runOps Try.prog E b q33_3 (ops [true, false] Try.f33) st) := GE.region_step (id := 1) (GE.reg_of (by kernel_rfl)) (by kernel_rfl)
theorem n33_5s : codeB Try.prog E ⟨f, 41, b, ro⟩ n33_5 st = plainS (runOps Try.prog E b q33_5 (ops [true, true, false] Try.f33) st) := GE.region_step (id := 2) (GE.reg_of (by kernel_rfl)) (by kernel_rfl)
theorem n33_8s : codeB Try.prog E ⟨f, 41, b, ro⟩ n33_8 st = plainS (runOps Try.prog E b q33_8 (ops [true, true, true, false, false] Try.f33) st) := GE.region_step (id := 3) (GE.reg_of (by kernel_rfl)) (by kernel_rfl)
theorem n33_12s : codeB Try.prog E ⟨f, 41, b, ro⟩ n33_12 st = plainS (runOps Try.prog E b q33_12 (ops [true, true, true, false, true, false, false, false] Try.f33) st) := GE.region_step (id := 4) (GE.reg_of (by kernel_rfl)) (by kernel_rfl)
theorem n33_15s : codeB Try.prog E cx n33_15 st = some (.normal, st) := GE.skip_step (by kernel_rfl)
theorem n33_16s : codeB Try.prog LL ⟨33, 41, b, ro⟩ n33_16 st = normS b ⟨[8], [⟨8, 0, 1, true⟩]⟩ (.exit 0) st := GE.exit_step (by kernel_rfl) (by kernel_rfl)
theorem n33_14s : codeB Try.prog E cx n33_14 st = condS (codeB Try.prog E cx n33_15) (codeB Try.prog E cx n33_16) (lk st.σ 25) st := GE.cond_step (c := .tmp 25) (by kernel_rfl)
theorem n33_20s : codeB Try.prog E ⟨f, 41, b, ro⟩ n33_20 st = plainS (runOps Try.prog E b q33_20 (ops [true, true, true, false, true, false, false, true, true, false, false, false] Try.f33) st) := GE.region_step (id := 5) (GE.reg_of (by kernel_rfl)) (by kernel_rfl)
theorem n33_21s : codeB Try.prog E ⟨f, 41, b, ro⟩ n33_21 st = plainS (runOps Try.prog E b q33_21 (ops [true, true, true, false, true, false, false, true, true, false, false, true] Try.f33) st) := GE.region_step (id := 6) (GE.reg_of (by kernel_rfl)) (by kernel_rfl)
theorem n33_19s : codeB Try.prog E cx n33_19 st = thenS (codeB Try.prog E cx n33_20 st) (codeB Try.prog E cx n33_21) := GE.seq_step (by kernel_rfl)
theorem n33_18s : codeB Try.prog E cx n33_18 st = blockS 1 (codeB Try.prog E cx n33_19 st) st := GE.block_step (by kernel_rfl)
theorem n33_22s : codeB Try.prog E ⟨f, 41, b, ro⟩ n33_22 st = plainS (runOps Try.prog E b q33_22 (ops [true, true, true, false, true, false, false, true, true, true] Try.f33) st) := GE.region_step (id := 7) (GE.reg_of (by kernel_rfl)) (by kernel_rfl)
theorem n33_17s : codeB Try.prog E cx n33_17 st = thenS (codeB Try.prog E cx n33_18 st) (codeB Try.prog E cx n33_22) := GE.seq_step (by kernel_rfl)
theorem n33_13s : codeB Try.prog E cx n33_13 st = thenS (codeB Try.prog E cx n33_14 st) (codeB Try.prog E cx n33_17) := GE.seq_step (by kernel_rfl)
theorem n33_11s : codeB Try.prog E cx n33_11 st = thenS (codeB Try.prog E cx n33_12 st) (codeB Try.prog E cx n33_13) := GE.seq_step (by kernel_rfl)
theorem n33_10k : LL.kp (⟨33, 41, b, ro⟩ : Cx).fn (4 * rid n33_11 + 3) = some ⟨[3, 8, 23, 24], [⟨8, 0, 1, true⟩]⟩ := by kernel_rfl
theorem n33_10s : codeB Try.prog LL ⟨33, 41, b, ro⟩ n33_10 st = headS b ⟨[3, 8, 23, 24], [⟨8, 0, 1, true⟩]⟩ st (lpB Try.prog LL ⟨33, 41, b, ro⟩ n33_10 n33_11) := GE.lpB_step (by kernel_rfl) (n33_10k b ro)
theorem n33_10g : LL.code ⟨33, 41, b, ro⟩ n33_10 st = headS b ⟨[3, 8, 23, 24], [⟨8, 0, 1, true⟩]⟩ st (lpB Try.prog LL ⟨33, 41, b, ro⟩ n33_10 n33_11) := GE.lpB_again (by kernel_rfl) (n33_10k b ro)
theorem n33_9s : codeB Try.prog E cx n33_9 st = blockS 0 (codeB Try.prog E cx n33_10 st) st := GE.block_step (by kernel_rfl)
theorem n33_7s : codeB Try.prog E cx n33_7 st = thenS (codeB Try.prog E cx n33_8 st) (codeB Try.prog E cx n33_9) := GE.seq_step (by kernel_rfl)
theorem n33_24s : codeB Try.prog E ⟨f, 41, b, ro⟩ n33_24 st = plainS (runOps Try.prog E b q33_24 (ops [true, true, true, true, false] Try.f33) st) := GE.region_step (id := 8) (GE.reg_of (by kernel_rfl)) (by kernel_rfl)
theorem n33_25s : codeB Try.prog LL ⟨33, 41, b, ro⟩ n33_25 st = normS b ⟨[6], []⟩ .ret st := GE.ret_step (by kernel_rfl) (by kernel_rfl)
theorem n33_23s : codeB Try.prog E cx n33_23 st = thenS (codeB Try.prog E cx n33_24 st) (codeB Try.prog E cx n33_25) := GE.seq_step (by kernel_rfl)
theorem n33_6s : codeB Try.prog E cx n33_6 st = thenS (codeB Try.prog E cx n33_7 st) (codeB Try.prog E cx n33_23) := GE.seq_step (by kernel_rfl)
theorem n33_4s : codeB Try.prog E cx n33_4 st = thenS (codeB Try.prog E cx n33_5 st) (codeB Try.prog E cx n33_6) := GE.seq_step (by kernel_rfl)
theorem n33_2s : codeB Try.prog E cx n33_2 st = thenS (codeB Try.prog E cx n33_3 st) (codeB Try.prog E cx n33_4) := GE.seq_step (by kernel_rfl)
theorem n33_0s : codeB Try.prog E cx n33_0 st = thenS (codeB Try.prog E cx n33_1 st) (codeB Try.prog E cx n33_2) := GE.seq_step (by kernel_rfl)
noncomputable def n40_0 : Code := bodyOf Try.f40
noncomputable def n40_1 : Code := cl n40_0
noncomputable def q40_1 : List Oper := opsOf n40_1
noncomputable def n40_2 : Code := cr n40_0
noncomputable def n40_3 : Code := cl n40_2
noncomputable def q40_3 : List Oper := opsOf n40_3
noncomputable def n40_4 : Code := cr n40_2
theorem body40 : Try.f40.body = some n40_0 := by kernel_rfl
theorem run40 (E : Ev) (args : List Value) (h : List Blk) (hl : args.length ≤ 6) : runB Try.prog E 40 args h = endS Try.prog [.tmp 4] h.length (codeB Try.prog E ⟨40, 6, h.length, none⟩ n40_0 ⟨enumT 0 args, h, []⟩) := GE.run_step Try.func40 body40 (by kernel_rfl) (by decide) (by kernel_rfl) hl
theorem n40_1s : codeB Try.prog E ⟨f, 6, b, ro⟩ n40_1 st = plainS (runOps Try.prog E b q40_1 (ops [false] Try.f40) st) := GE.region_step (id := 0) (GE.reg_of (by kernel_rfl)) (by kernel_rfl)
theorem n40_3s : codeB Try.prog E ⟨f, 6, b, ro⟩ n40_3 st = plainS (runOps Try.prog E b q40_3 (ops [true, false] Try.f40) st) := GE.region_step (id := 1) (GE.reg_of (by kernel_rfl)) (by kernel_rfl)
theorem n40_4s : codeB Try.prog LL ⟨40, 6, b, ro⟩ n40_4 st = normS b ⟨[4], []⟩ .ret st := GE.ret_step (by kernel_rfl) (by kernel_rfl)
theorem n40_2s : codeB Try.prog E cx n40_2 st = thenS (codeB Try.prog E cx n40_3 st) (codeB Try.prog E cx n40_4) := GE.seq_step (by kernel_rfl)
theorem n40_0s : codeB Try.prog E cx n40_0 st = thenS (codeB Try.prog E cx n40_1 st) (codeB Try.prog E cx n40_2) := GE.seq_step (by kernel_rfl)
noncomputable def n42_0 : Code := bodyOf Try.f42
noncomputable def n42_1 : Code := cl n42_0
noncomputable def q42_1 : List Oper := opsOf n42_1
noncomputable def n42_2 : Code := cr n42_0
noncomputable def n42_3 : Code := cl n42_2
noncomputable def n42_4 : Code := cl n42_3
noncomputable def q42_4 : List Oper := opsOf n42_4
noncomputable def n42_5 : Code := cr n42_3
noncomputable def n42_6 : Code := cl n42_5
noncomputable def n42_7 : Code := cl n42_6
noncomputable def n42_8 : Code := cl n42_7
noncomputable def q42_8 : List Oper := opsOf n42_8
noncomputable def n42_9 : Code := cr n42_7
noncomputable def n42_10 : Code := cl n42_9
noncomputable def n42_11 : Code := cl n42_10
noncomputable def n42_12 : Code := cr n42_10
noncomputable def n42_13 : Code := cr n42_9
noncomputable def n42_14 : Code := cl n42_13
noncomputable def n42_15 : Code := cl n42_14
noncomputable def q42_15 : List Oper := opsOf n42_15
noncomputable def n42_16 : Code := cr n42_14
noncomputable def n42_17 : Code := cl n42_16
noncomputable def q42_17 : List Oper := opsOf n42_17
noncomputable def n42_18 : Code := cr n42_16
noncomputable def n42_19 : Code := cl n42_18
noncomputable def n42_20 : Code := cl n42_19
noncomputable def q42_20 : List Oper := opsOf n42_20
noncomputable def n42_21 : Code := cr n42_19
noncomputable def n42_22 : Code := cr n42_18
noncomputable def n42_23 : Code := cr n42_2
noncomputable def n42_24 : Code := cl n42_23
noncomputable def q42_24 : List Oper := opsOf n42_24
noncomputable def n42_25 : Code := cr n42_23
theorem body42 : Try.f42.body = some n42_0 := by kernel_rfl
theorem run42 (E : Ev) (args : List Value) (h : List Blk) (hl : args.length ≤ 16) : runB Try.prog E 42 args h = endS Try.prog [.tmp 4] h.length (codeB Try.prog E ⟨42, 16, h.length, none⟩ n42_0 ⟨enumT 0 args, h, []⟩) := GE.run_step Try.func42 body42 (by kernel_rfl) (by decide) (by kernel_rfl) hl
theorem n42_1s : codeB Try.prog E ⟨f, 16, b, ro⟩ n42_1 st = plainS (runOps Try.prog E b q42_1 (ops [false] Try.f42) st) := GE.region_step (id := 0) (GE.reg_of (by kernel_rfl)) (by kernel_rfl)
theorem n42_4s : codeB Try.prog E ⟨f, 16, b, ro⟩ n42_4 st = plainS (runOps Try.prog E b q42_4 (ops [true, false, false] Try.f42) st) := GE.region_step (id := 1) (GE.reg_of (by kernel_rfl)) (by kernel_rfl)
theorem n42_8s : codeB Try.prog E ⟨f, 16, b, ro⟩ n42_8 st = plainS (runOps Try.prog E b q42_8 (ops [true, false, true, false, false, false] Try.f42) st) := GE.region_step (id := 2) (GE.reg_of (by kernel_rfl)) (by kernel_rfl)
theorem n42_11s : codeB Try.prog E cx n42_11 st = some (.normal, st) := GE.skip_step (by kernel_rfl)
theorem n42_12s : codeB Try.prog LL ⟨42, 16, b, ro⟩ n42_12 st = normS b ⟨[], []⟩ (.exit 0) st := GE.exit_step (by kernel_rfl) (by kernel_rfl)
theorem n42_10s : codeB Try.prog E cx n42_10 st = condS (codeB Try.prog E cx n42_11) (codeB Try.prog E cx n42_12) (lk st.σ 10) st := GE.cond_step (c := .tmp 10) (by kernel_rfl)
theorem n42_15s : codeB Try.prog E ⟨f, 16, b, ro⟩ n42_15 st = plainS (runOps Try.prog E b q42_15 (ops [true, false, true, false, false, true, true, false, false] Try.f42) st) := GE.region_step (id := 3) (GE.reg_of (by kernel_rfl)) (by kernel_rfl)
theorem n42_17s : codeB Try.prog E ⟨f, 16, b, ro⟩ n42_17 st = plainS (runOps Try.prog E b q42_17 (ops [true, false, true, false, false, true, true, false, true, false] Try.f42) st) := GE.region_step (id := 4) (GE.reg_of (by kernel_rfl)) (by kernel_rfl)
theorem n42_20s : codeB Try.prog E ⟨f, 16, b, ro⟩ n42_20 st = plainS (runOps Try.prog E b q42_20 (ops [true, false, true, false, false, true, true, false, true, true, false, false] Try.f42) st) := GE.region_step (id := 5) (GE.reg_of (by kernel_rfl)) (by kernel_rfl)
theorem n42_21s : codeB Try.prog LL ⟨42, 16, b, ro⟩ n42_21 st = normS b ⟨[4], []⟩ .ret st := GE.ret_step (by kernel_rfl) (by kernel_rfl)
theorem n42_19s : codeB Try.prog E cx n42_19 st = thenS (codeB Try.prog E cx n42_20 st) (codeB Try.prog E cx n42_21) := GE.seq_step (by kernel_rfl)
theorem n42_22s : codeB Try.prog E cx n42_22 st = some (.normal, st) := GE.skip_step (by kernel_rfl)
theorem n42_18s : codeB Try.prog E cx n42_18 st = condS (codeB Try.prog E cx n42_19) (codeB Try.prog E cx n42_22) (lk st.σ 15) st := GE.cond_step (c := .tmp 15) (by kernel_rfl)
theorem n42_16s : codeB Try.prog E cx n42_16 st = thenS (codeB Try.prog E cx n42_17 st) (codeB Try.prog E cx n42_18) := GE.seq_step (by kernel_rfl)
theorem n42_14s : codeB Try.prog E cx n42_14 st = thenS (codeB Try.prog E cx n42_15 st) (codeB Try.prog E cx n42_16) := GE.seq_step (by kernel_rfl)
theorem n42_13s : codeB Try.prog E cx n42_13 st = blockS 1 (codeB Try.prog E cx n42_14 st) st := GE.block_step (by kernel_rfl)
theorem n42_9s : codeB Try.prog E cx n42_9 st = thenS (codeB Try.prog E cx n42_10 st) (codeB Try.prog E cx n42_13) := GE.seq_step (by kernel_rfl)
theorem n42_7s : codeB Try.prog E cx n42_7 st = thenS (codeB Try.prog E cx n42_8 st) (codeB Try.prog E cx n42_9) := GE.seq_step (by kernel_rfl)
theorem n42_6k : LL.kp (⟨42, 16, b, ro⟩ : Cx).fn (4 * rid n42_7 + 3) = some ⟨[1, 8], []⟩ := by kernel_rfl
theorem n42_6s : codeB Try.prog LL ⟨42, 16, b, ro⟩ n42_6 st = headS b ⟨[1, 8], []⟩ st (lpB Try.prog LL ⟨42, 16, b, ro⟩ n42_6 n42_7) := GE.lpB_step (by kernel_rfl) (n42_6k b ro)
theorem n42_6g : LL.code ⟨42, 16, b, ro⟩ n42_6 st = headS b ⟨[1, 8], []⟩ st (lpB Try.prog LL ⟨42, 16, b, ro⟩ n42_6 n42_7) := GE.lpB_again (by kernel_rfl) (n42_6k b ro)
theorem n42_5s : codeB Try.prog E cx n42_5 st = blockS 0 (codeB Try.prog E cx n42_6 st) st := GE.block_step (by kernel_rfl)
theorem n42_3s : codeB Try.prog E cx n42_3 st = thenS (codeB Try.prog E cx n42_4 st) (codeB Try.prog E cx n42_5) := GE.seq_step (by kernel_rfl)
theorem n42_24s : codeB Try.prog E ⟨f, 16, b, ro⟩ n42_24 st = plainS (runOps Try.prog E b q42_24 (ops [true, true, false] Try.f42) st) := GE.region_step (id := 6) (GE.reg_of (by kernel_rfl)) (by kernel_rfl)
theorem n42_25s : codeB Try.prog LL ⟨42, 16, b, ro⟩ n42_25 st = normS b ⟨[4], []⟩ .ret st := GE.ret_step (by kernel_rfl) (by kernel_rfl)
theorem n42_23s : codeB Try.prog E cx n42_23 st = thenS (codeB Try.prog E cx n42_24 st) (codeB Try.prog E cx n42_25) := GE.seq_step (by kernel_rfl)
theorem n42_2s : codeB Try.prog E cx n42_2 st = thenS (codeB Try.prog E cx n42_3 st) (codeB Try.prog E cx n42_23) := GE.seq_step (by kernel_rfl)
theorem n42_0s : codeB Try.prog E cx n42_0 st = thenS (codeB Try.prog E cx n42_1 st) (codeB Try.prog E cx n42_2) := GE.seq_step (by kernel_rfl)
noncomputable def n45_0 : Code := bodyOf Try.f45
noncomputable def n45_1 : Code := cl n45_0
noncomputable def q45_1 : List Oper := opsOf n45_1
noncomputable def n45_2 : Code := cr n45_0
noncomputable def n45_3 : Code := cl n45_2
noncomputable def q45_3 : List Oper := opsOf n45_3
noncomputable def n45_4 : Code := cr n45_2
noncomputable def n45_5 : Code := cl n45_4
noncomputable def n45_6 : Code := cl n45_5
noncomputable def q45_6 : List Oper := opsOf n45_6
noncomputable def n45_7 : Code := cr n45_5
noncomputable def n45_8 : Code := cl n45_7
noncomputable def n45_9 : Code := cl n45_8
noncomputable def q45_9 : List Oper := opsOf n45_9
noncomputable def n45_10 : Code := cr n45_8
noncomputable def n45_11 : Code := cl n45_10
noncomputable def n45_12 : Code := cl n45_11
noncomputable def n45_13 : Code := cl n45_12
noncomputable def q45_13 : List Oper := opsOf n45_13
noncomputable def n45_14 : Code := cr n45_12
noncomputable def n45_15 : Code := cl n45_14
noncomputable def n45_16 : Code := cl n45_15
noncomputable def q45_16 : List Oper := opsOf n45_16
noncomputable def n45_17 : Code := cr n45_15
noncomputable def n45_18 : Code := cr n45_14
noncomputable def n45_19 : Code := cr n45_11
noncomputable def q45_19 : List Oper := opsOf n45_19
noncomputable def n45_20 : Code := cr n45_4
noncomputable def n45_21 : Code := cl n45_20
noncomputable def q45_21 : List Oper := opsOf n45_21
noncomputable def n45_22 : Code := cr n45_20
theorem body45 : Try.f45.body = some n45_0 := by kernel_rfl
theorem run45 (E : Ev) (args : List Value) (h : List Blk) (hl : args.length ≤ 19) : runB Try.prog E 45 args h = endS Try.prog [.cell 4 4] h.length (codeB Try.prog E ⟨45, 19, h.length, none⟩ n45_0 ⟨enumT 0 args, h, []⟩) := GE.run_step Try.func45 body45 (by kernel_rfl) (by decide) (by kernel_rfl) hl
theorem n45_1s : codeB Try.prog E ⟨f, 19, b, ro⟩ n45_1 st = plainS (runOps Try.prog E b q45_1 (ops [false] Try.f45) st) := GE.region_step (id := 0) (GE.reg_of (by kernel_rfl)) (by kernel_rfl)
theorem n45_3s : codeB Try.prog E ⟨f, 19, b, ro⟩ n45_3 st = plainS (runOps Try.prog E b q45_3 (ops [true, false] Try.f45) st) := GE.region_step (id := 1) (GE.reg_of (by kernel_rfl)) (by kernel_rfl)
theorem n45_6s : codeB Try.prog E ⟨f, 19, b, ro⟩ n45_6 st = plainS (runOps Try.prog E b q45_6 (ops [true, true, false, false] Try.f45) st) := GE.region_step (id := 2) (GE.reg_of (by kernel_rfl)) (by kernel_rfl)
theorem n45_9s : codeB Try.prog E ⟨f, 19, b, ro⟩ n45_9 st = plainS (runOps Try.prog E b q45_9 (ops [true, true, false, true, false, false] Try.f45) st) := GE.region_step (id := 3) (GE.reg_of (by kernel_rfl)) (by kernel_rfl)
theorem n45_13s : codeB Try.prog E ⟨f, 19, b, ro⟩ n45_13 st = plainS (runOps Try.prog E b q45_13 (ops [true, true, false, true, false, true, false, false, false] Try.f45) st) := GE.region_step (id := 4) (GE.reg_of (by kernel_rfl)) (by kernel_rfl)
theorem n45_16s : codeB Try.prog E ⟨f, 19, b, ro⟩ n45_16 st = plainS (runOps Try.prog E b q45_16 (ops [true, true, false, true, false, true, false, false, true, false, false] Try.f45) st) := GE.region_step (id := 5) (GE.reg_of (by kernel_rfl)) (by kernel_rfl)
theorem n45_17s : codeB Try.prog LL ⟨45, 19, b, ro⟩ n45_17 st = normS b ⟨[4], []⟩ .ret st := GE.ret_step (by kernel_rfl) (by kernel_rfl)
theorem n45_15s : codeB Try.prog E cx n45_15 st = thenS (codeB Try.prog E cx n45_16 st) (codeB Try.prog E cx n45_17) := GE.seq_step (by kernel_rfl)
theorem n45_18s : codeB Try.prog E cx n45_18 st = some (.normal, st) := GE.skip_step (by kernel_rfl)
theorem n45_14s : codeB Try.prog E cx n45_14 st = condS (codeB Try.prog E cx n45_15) (codeB Try.prog E cx n45_18) (lk st.σ 16) st := GE.cond_step (c := .tmp 16) (by kernel_rfl)
theorem n45_12s : codeB Try.prog E cx n45_12 st = thenS (codeB Try.prog E cx n45_13 st) (codeB Try.prog E cx n45_14) := GE.seq_step (by kernel_rfl)
theorem n45_19s : codeB Try.prog E ⟨f, 19, b, ro⟩ n45_19 st = plainS (runOps Try.prog E b q45_19 (ops [true, true, false, true, false, true, false, true] Try.f45) st) := GE.region_step (id := 6) (GE.reg_of (by kernel_rfl)) (by kernel_rfl)
theorem n45_11s : codeB Try.prog E cx n45_11 st = thenS (codeB Try.prog E cx n45_12 st) (codeB Try.prog E cx n45_19) := GE.seq_step (by kernel_rfl)
theorem n45_10s : codeB Try.prog E cx n45_10 st = blockS 1 (codeB Try.prog E cx n45_11 st) st := GE.block_step (by kernel_rfl)
theorem n45_8e : n45_8 = .rangeFunc (.tmp 11) #[12, 13] n45_9 n45_10 := by kernel_rfl
theorem n45_8k : (ue n45_9).1 ++ (ue n45_10).1 = [13, 5, 7, 4] := by kernel_rfl
theorem n45_7s : codeB Try.prog E cx n45_7 st = blockS 0 (codeB Try.prog E cx n45_8 st) st := GE.block_step (by kernel_rfl)
theorem n45_5s : codeB Try.prog E cx n45_5 st = thenS (codeB Try.prog E cx n45_6 st) (codeB Try.prog E cx n45_7) := GE.seq_step (by kernel_rfl)
theorem n45_21s : codeB Try.prog E ⟨f, 19, b, ro⟩ n45_21 st = plainS (runOps Try.prog E b q45_21 (ops [true, true, true, false] Try.f45) st) := GE.region_step (id := 7) (GE.reg_of (by kernel_rfl)) (by kernel_rfl)
theorem n45_22s : codeB Try.prog LL ⟨45, 19, b, ro⟩ n45_22 st = normS b ⟨[4], []⟩ .ret st := GE.ret_step (by kernel_rfl) (by kernel_rfl)
theorem n45_20s : codeB Try.prog E cx n45_20 st = thenS (codeB Try.prog E cx n45_21 st) (codeB Try.prog E cx n45_22) := GE.seq_step (by kernel_rfl)
theorem n45_4s : codeB Try.prog E cx n45_4 st = thenS (codeB Try.prog E cx n45_5 st) (codeB Try.prog E cx n45_20) := GE.seq_step (by kernel_rfl)
theorem n45_2s : codeB Try.prog E cx n45_2 st = thenS (codeB Try.prog E cx n45_3 st) (codeB Try.prog E cx n45_4) := GE.seq_step (by kernel_rfl)
theorem n45_0s : codeB Try.prog E cx n45_0 st = thenS (codeB Try.prog E cx n45_1 st) (codeB Try.prog E cx n45_2) := GE.seq_step (by kernel_rfl)
noncomputable def n55_0 : Code := bodyOf Try.f55
noncomputable def n55_1 : Code := cl n55_0
noncomputable def q55_1 : List Oper := opsOf n55_1
noncomputable def n55_2 : Code := cr n55_0
noncomputable def n55_3 : Code := cl n55_2
noncomputable def q55_3 : List Oper := opsOf n55_3
noncomputable def n55_4 : Code := cr n55_2
noncomputable def n55_5 : Code := cl n55_4
noncomputable def n55_6 : Code := cl n55_5
noncomputable def n55_7 : Code := cl n55_6
noncomputable def q55_7 : List Oper := opsOf n55_7
noncomputable def n55_8 : Code := cr n55_6
noncomputable def n55_9 : Code := cl n55_8
noncomputable def n55_10 : Code := cl n55_9
noncomputable def n55_11 : Code := cr n55_9
noncomputable def n55_12 : Code := cr n55_8
noncomputable def n55_13 : Code := cl n55_12
noncomputable def n55_14 : Code := cl n55_13
noncomputable def q55_14 : List Oper := opsOf n55_14
noncomputable def n55_15 : Code := cr n55_13
noncomputable def n55_16 : Code := cl n55_15
noncomputable def q55_16 : List Oper := opsOf n55_16
noncomputable def n55_17 : Code := cr n55_15
noncomputable def n55_18 : Code := cl n55_17
noncomputable def n55_19 : Code := cr n55_17
theorem body55 : Try.f55.body = some n55_0 := by kernel_rfl
theorem run55 (E : Ev) (args : List Value) (h : List Blk) (hl : args.length ≤ 28) : runB Try.prog E 55 args h = endS Try.prog [] h.length (codeB Try.prog E ⟨55, 28, h.length, none⟩ n55_0 ⟨enumT 0 args, h, []⟩) := GE.run_step Try.func55 body55 (by kernel_rfl) (by decide) (by kernel_rfl) hl
theorem n55_1s : codeB Try.prog E ⟨f, 28, b, ro⟩ n55_1 st = drawS [0, 0, 0, 4, 14, 30, 63, 127] (runOpsF Try.prog E b q55_1 (ops [false] Try.f55) st) := GE.draw_step (id := 0) (GE.reg_of (by kernel_rfl)) (by kernel_rfl) (by kernel_rfl) (by kernel_rfl)
theorem n55_3s : codeB Try.prog E ⟨f, 28, b, ro⟩ n55_3 st = plainS (runOps Try.prog E b q55_3 (ops [true, false] Try.f55) st) := GE.region_step (id := 1) (GE.reg_of (by kernel_rfl)) (by kernel_rfl)
theorem n55_7s : codeB Try.prog E ⟨f, 28, b, ro⟩ n55_7 st = plainS (runOps Try.prog E b q55_7 (ops [true, true, false, false, false] Try.f55) st) := GE.region_step (id := 2) (GE.reg_of (by kernel_rfl)) (by kernel_rfl)
theorem n55_10s : codeB Try.prog E cx n55_10 st = some (.normal, st) := GE.skip_step (by kernel_rfl)
theorem n55_11s : codeB Try.prog LL ⟨55, 28, b, ro⟩ n55_11 st = normS b ⟨[], []⟩ (.exit 0) st := GE.exit_step (by kernel_rfl) (by kernel_rfl)
theorem n55_9s : codeB Try.prog E cx n55_9 st = condS (codeB Try.prog E cx n55_10) (codeB Try.prog E cx n55_11) (lk st.σ 16) st := GE.cond_step (c := .tmp 16) (by kernel_rfl)
theorem n55_14s : codeB Try.prog E ⟨f, 28, b, ro⟩ n55_14 st = plainS (runOps Try.prog E b q55_14 (ops [true, true, false, false, true, true, false, false] Try.f55) st) := GE.region_step (id := 3) (GE.reg_of (by kernel_rfl)) (by kernel_rfl)
theorem n55_16s : codeB Try.prog E ⟨f, 28, b, ro⟩ n55_16 st = plainS (runOps Try.prog E b q55_16 (ops [true, true, false, false, true, true, false, true, false] Try.f55) st) := GE.region_step (id := 4) (GE.reg_of (by kernel_rfl)) (by kernel_rfl)
theorem n55_18s : codeB Try.prog LL ⟨55, 28, b, ro⟩ n55_18 st = normS b ⟨[], []⟩ .ret st := GE.ret_step (by kernel_rfl) (by kernel_rfl)
theorem n55_19s : codeB Try.prog E cx n55_19 st = some (.normal, st) := GE.skip_step (by kernel_rfl)
theorem n55_17s : codeB Try.prog E cx n55_17 st = condS (codeB Try.prog E cx n55_18) (codeB Try.prog E cx n55_19) (lk st.σ 27) st := GE.cond_step (c := .tmp 27) (by kernel_rfl)
theorem n55_15s : codeB Try.prog E cx n55_15 st = thenS (codeB Try.prog E cx n55_16 st) (codeB Try.prog E cx n55_17) := GE.seq_step (by kernel_rfl)
theorem n55_13s : codeB Try.prog E cx n55_13 st = thenS (codeB Try.prog E cx n55_14 st) (codeB Try.prog E cx n55_15) := GE.seq_step (by kernel_rfl)
theorem n55_12s : codeB Try.prog E cx n55_12 st = blockS 1 (codeB Try.prog E cx n55_13 st) st := GE.block_step (by kernel_rfl)
theorem n55_8s : codeB Try.prog E cx n55_8 st = thenS (codeB Try.prog E cx n55_9 st) (codeB Try.prog E cx n55_12) := GE.seq_step (by kernel_rfl)
theorem n55_6s : codeB Try.prog E cx n55_6 st = thenS (codeB Try.prog E cx n55_7 st) (codeB Try.prog E cx n55_8) := GE.seq_step (by kernel_rfl)
theorem n55_5k : LL.kp (⟨55, 28, b, ro⟩ : Cx).fn (4 * rid n55_6 + 3) = some ⟨[0, 2, 4, 14], []⟩ := by kernel_rfl
theorem n55_5s : codeB Try.prog LL ⟨55, 28, b, ro⟩ n55_5 st = headS b ⟨[0, 2, 4, 14], []⟩ st (lpB Try.prog LL ⟨55, 28, b, ro⟩ n55_5 n55_6) := GE.lpB_step (by kernel_rfl) (n55_5k b ro)
theorem n55_5g : LL.code ⟨55, 28, b, ro⟩ n55_5 st = headS b ⟨[0, 2, 4, 14], []⟩ st (lpB Try.prog LL ⟨55, 28, b, ro⟩ n55_5 n55_6) := GE.lpB_again (by kernel_rfl) (n55_5k b ro)
theorem n55_4s : codeB Try.prog E cx n55_4 st = blockS 0 (codeB Try.prog E cx n55_5 st) st := GE.block_step (by kernel_rfl)
theorem n55_2s : codeB Try.prog E cx n55_2 st = thenS (codeB Try.prog E cx n55_3 st) (codeB Try.prog E cx n55_4) := GE.seq_step (by kernel_rfl)
theorem n55_0s : codeB Try.prog E cx n55_0 st = thenS (codeB Try.prog E cx n55_1 st) (codeB Try.prog E cx n55_2) := GE.seq_step (by kernel_rfl)
theorem cv_5_3 : convK Try.prog 5 3 = some .i64 := by kernel_rfl
theorem ap_26 : apK Try.prog 26 = some (1, 16) := by kernel_rfl
theorem ni_26 : notInt Try.prog 26 = true := by kernel_rfl
theorem lk_26 : lenK Try.prog 26 = some .sl := by kernel_rfl
theorem es_26 : elemK Try.prog 26 = some (none, 1) := by kernel_rfl
theorem ia_9 : aggK Try.prog 9 = some (false, 1) := by kernel_rfl
theorem sz_9 : aggSize Try.prog 9 = some 1 := by kernel_rfl
theorem lk_51 : lenK Try.prog 51 = some .sl := by kernel_rfl
theorem cv_3_5 : convK Try.prog 3 5 = some .u8 := by kernel_rfl
theorem es_51 : elemK Try.prog 51 = some (none, 1) := by kernel_rfl
theorem sz_5 : aggSize Try.prog 5 = some 1 := by kernel_rfl
theorem ia_46 : aggK Try.prog 46 = some (true, 2) := by kernel_rfl
theorem fa_46_1 : fieldAt Try.prog 46 1 = some (1, 1) := by kernel_rfl
theorem ia_5 : aggK Try.prog 5 = some (false, 1) := by kernel_rfl
theorem fa_46_0 : fieldAt Try.prog 46 0 = some (0, 1) := by kernel_rfl
theorem ia_44 : aggK Try.prog 44 = some (false, 1) := by kernel_rfl
theorem cv_44_5 : convK Try.prog 44 5 = some .u8 := by kernel_rfl
theorem za_4 : zeroA Try.prog 4 = some (.bool false) := by kernel_rfl
theorem za_80 : zeroA Try.prog 80 = some (.map none) := by kernel_rfl
theorem sz_80 : aggSize Try.prog 80 = some 1 := by kernel_rfl
theorem ia_80 : aggK Try.prog 80 = some (false, 1) := by kernel_rfl
theorem sz_4 : aggSize Try.prog 4 = some 1 := by kernel_rfl
theorem ia_4 : aggK Try.prog 4 = some (false, 1) := by kernel_rfl
theorem ia_3 : aggK Try.prog 3 = some (false, 1) := by kernel_rfl

end Go.Proofs.Ytjimphlkhjmaiaa.sw
