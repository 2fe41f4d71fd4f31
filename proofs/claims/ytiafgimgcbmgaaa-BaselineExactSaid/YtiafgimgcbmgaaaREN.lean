/-
  Names for the nodes of the code of some functions (projections of their bodies), the step of each node, and the facts of types that they use.
-/
import Derived.Test.YtiafgimgcbmgaaaKp
namespace Go.Proofs.Ytiafgimgcbmgaaa.bl
open Go.GE
set_option maxRecDepth 100000
variable (E : Ev) (cx : Cx) (st : St) (f nt b : Nat) (ro : Option Nat)
noncomputable def n8_0 : Code := bodyOf Try.f8
noncomputable def n8_1 : Code := cl n8_0
noncomputable def q8_1 : List Oper := opsOf n8_1
noncomputable def n8_2 : Code := cr n8_0
noncomputable def n8_3 : Code := cl n8_2
noncomputable def q8_3 : List Oper := opsOf n8_3
noncomputable def n8_4 : Code := cr n8_2
noncomputable def n8_5 : Code := cl n8_4
noncomputable def q8_5 : List Oper := opsOf n8_5
noncomputable def n8_6 : Code := cr n8_4
noncomputable def n8_7 : Code := cl n8_6
noncomputable def q8_7 : List Oper := opsOf n8_7
noncomputable def n8_8 : Code := cr n8_6
noncomputable def n8_9 : Code := cl n8_8
noncomputable def q8_9 : List Oper := opsOf n8_9
noncomputable def n8_10 : Code := cr n8_8
noncomputable def n8_11 : Code := cl n8_10
noncomputable def q8_11 : List Oper := opsOf n8_11
noncomputable def n8_12 : Code := cr n8_10
noncomputable def n8_13 : Code := cl n8_12
noncomputable def q8_13 : List Oper := opsOf n8_13
noncomputable def n8_14 : Code := cr n8_12
noncomputable def n8_15 : Code := cl n8_14
noncomputable def n8_16 : Code := cl n8_15
noncomputable def q8_16 : List Oper := opsOf n8_16
noncomputable def n8_17 : Code := cr n8_15
noncomputable def n8_18 : Code := cl n8_17
noncomputable def n8_19 : Code := cl n8_18
noncomputable def q8_19 : List Oper := opsOf n8_19
noncomputable def n8_20 : Code := cr n8_18
noncomputable def n8_21 : Code := cr n8_17
noncomputable def n8_22 : Code := cr n8_14
noncomputable def n8_23 : Code := cl n8_22
noncomputable def n8_24 : Code := cl n8_23
noncomputable def q8_24 : List Oper := opsOf n8_24
noncomputable def n8_25 : Code := cr n8_23
noncomputable def n8_26 : Code := cl n8_25
noncomputable def n8_27 : Code := cl n8_26
noncomputable def q8_27 : List Oper := opsOf n8_27
noncomputable def n8_28 : Code := cr n8_26
noncomputable def n8_29 : Code := cr n8_25
noncomputable def n8_30 : Code := cr n8_22
noncomputable def n8_31 : Code := cl n8_30
noncomputable def q8_31 : List Oper := opsOf n8_31
noncomputable def n8_32 : Code := cr n8_30
noncomputable def n8_33 : Code := cl n8_32
noncomputable def n8_34 : Code := cl n8_33
noncomputable def q8_34 : List Oper := opsOf n8_34
noncomputable def n8_35 : Code := cr n8_33
noncomputable def n8_36 : Code := cl n8_35
noncomputable def n8_37 : Code := cl n8_36
noncomputable def n8_38 : Code := cl n8_37
noncomputable def q8_38 : List Oper := opsOf n8_38
noncomputable def n8_39 : Code := cr n8_37
noncomputable def n8_40 : Code := cl n8_39
noncomputable def n8_41 : Code := cl n8_40
noncomputable def n8_42 : Code := cr n8_40
noncomputable def n8_43 : Code := cr n8_39
noncomputable def n8_44 : Code := cl n8_43
noncomputable def n8_45 : Code := cl n8_44
noncomputable def n8_46 : Code := cl n8_45
noncomputable def q8_46 : List Oper := opsOf n8_46
noncomputable def n8_47 : Code := cr n8_45
noncomputable def n8_48 : Code := cl n8_47
noncomputable def q8_48 : List Oper := opsOf n8_48
noncomputable def n8_49 : Code := cr n8_47
noncomputable def n8_50 : Code := cl n8_49
noncomputable def n8_51 : Code := cl n8_50
noncomputable def q8_51 : List Oper := opsOf n8_51
noncomputable def n8_52 : Code := cr n8_50
noncomputable def n8_53 : Code := cl n8_52
noncomputable def n8_54 : Code := cl n8_53
noncomputable def n8_55 : Code := cl n8_54
noncomputable def q8_55 : List Oper := opsOf n8_55
noncomputable def n8_56 : Code := cr n8_54
noncomputable def n8_57 : Code := cl n8_56
noncomputable def n8_58 : Code := cl n8_57
noncomputable def n8_59 : Code := cr n8_57
noncomputable def n8_60 : Code := cr n8_56
noncomputable def n8_61 : Code := cl n8_60
noncomputable def n8_62 : Code := cl n8_61
noncomputable def n8_63 : Code := cl n8_62
noncomputable def q8_63 : List Oper := opsOf n8_63
noncomputable def n8_64 : Code := cr n8_62
noncomputable def q8_64 : List Oper := opsOf n8_64
noncomputable def n8_65 : Code := cr n8_60
noncomputable def q8_65 : List Oper := opsOf n8_65
noncomputable def n8_66 : Code := cr n8_49
noncomputable def n8_67 : Code := cl n8_66
noncomputable def q8_67 : List Oper := opsOf n8_67
noncomputable def n8_68 : Code := cr n8_66
noncomputable def n8_69 : Code := cl n8_68
noncomputable def n8_70 : Code := cl n8_69
noncomputable def q8_70 : List Oper := opsOf n8_70
noncomputable def n8_71 : Code := cr n8_69
noncomputable def n8_72 : Code := cl n8_71
noncomputable def n8_73 : Code := cl n8_72
noncomputable def q8_73 : List Oper := opsOf n8_73
noncomputable def n8_74 : Code := cr n8_72
noncomputable def n8_75 : Code := cr n8_71
noncomputable def n8_76 : Code := cr n8_68
noncomputable def n8_77 : Code := cl n8_76
noncomputable def n8_78 : Code := cl n8_77
noncomputable def q8_78 : List Oper := opsOf n8_78
noncomputable def n8_79 : Code := cr n8_77
noncomputable def n8_80 : Code := cl n8_79
noncomputable def n8_81 : Code := cr n8_79
noncomputable def n8_82 : Code := cr n8_76
noncomputable def n8_83 : Code := cl n8_82
noncomputable def q8_83 : List Oper := opsOf n8_83
noncomputable def n8_84 : Code := cr n8_82
noncomputable def n8_85 : Code := cl n8_84
noncomputable def n8_86 : Code := cl n8_85
noncomputable def q8_86 : List Oper := opsOf n8_86
noncomputable def n8_87 : Code := cr n8_85
noncomputable def n8_88 : Code := cl n8_87
noncomputable def n8_89 : Code := cl n8_88
noncomputable def n8_90 : Code := cl n8_89
noncomputable def q8_90 : List Oper := opsOf n8_90
noncomputable def n8_91 : Code := cr n8_89
noncomputable def n8_92 : Code := cl n8_91
noncomputable def n8_93 : Code := cl n8_92
noncomputable def n8_94 : Code := cr n8_92
noncomputable def n8_95 : Code := cr n8_91
noncomputable def n8_96 : Code := cl n8_95
noncomputable def n8_97 : Code := cl n8_96
noncomputable def n8_98 : Code := cl n8_97
noncomputable def q8_98 : List Oper := opsOf n8_98
noncomputable def n8_99 : Code := cr n8_97
noncomputable def q8_99 : List Oper := opsOf n8_99
noncomputable def n8_100 : Code := cr n8_95
noncomputable def q8_100 : List Oper := opsOf n8_100
noncomputable def n8_101 : Code := cr n8_84
noncomputable def n8_102 : Code := cl n8_101
noncomputable def q8_102 : List Oper := opsOf n8_102
noncomputable def n8_103 : Code := cr n8_101
noncomputable def n8_104 : Code := cl n8_103
noncomputable def q8_104 : List Oper := opsOf n8_104
noncomputable def n8_105 : Code := cr n8_103
noncomputable def n8_106 : Code := cl n8_105
noncomputable def n8_107 : Code := cl n8_106
noncomputable def q8_107 : List Oper := opsOf n8_107
noncomputable def n8_108 : Code := cr n8_106
noncomputable def n8_109 : Code := cr n8_105
noncomputable def n8_110 : Code := cr n8_43
noncomputable def q8_110 : List Oper := opsOf n8_110
noncomputable def n8_111 : Code := cr n8_32
noncomputable def n8_112 : Code := cl n8_111
noncomputable def n8_113 : Code := cl n8_112
noncomputable def q8_113 : List Oper := opsOf n8_113
noncomputable def n8_114 : Code := cr n8_112
noncomputable def n8_115 : Code := cl n8_114
noncomputable def n8_116 : Code := cl n8_115
noncomputable def q8_116 : List Oper := opsOf n8_116
noncomputable def n8_117 : Code := cr n8_115
noncomputable def n8_118 : Code := cr n8_114
noncomputable def n8_119 : Code := cr n8_111
noncomputable def n8_120 : Code := cl n8_119
noncomputable def n8_121 : Code := cl n8_120
noncomputable def q8_121 : List Oper := opsOf n8_121
noncomputable def n8_122 : Code := cr n8_120
noncomputable def n8_123 : Code := cl n8_122
noncomputable def n8_124 : Code := cl n8_123
noncomputable def q8_124 : List Oper := opsOf n8_124
noncomputable def n8_125 : Code := cr n8_123
noncomputable def n8_126 : Code := cr n8_122
noncomputable def n8_127 : Code := cr n8_119
noncomputable def n8_128 : Code := cl n8_127
noncomputable def n8_129 : Code := cl n8_128
noncomputable def q8_129 : List Oper := opsOf n8_129
noncomputable def n8_130 : Code := cr n8_128
noncomputable def n8_131 : Code := cl n8_130
noncomputable def n8_132 : Code := cl n8_131
noncomputable def n8_133 : Code := cl n8_132
noncomputable def n8_134 : Code := cl n8_133
noncomputable def q8_134 : List Oper := opsOf n8_134
noncomputable def n8_135 : Code := cr n8_133
noncomputable def n8_136 : Code := cl n8_135
noncomputable def n8_137 : Code := cr n8_135
noncomputable def n8_138 : Code := cr n8_132
noncomputable def n8_139 : Code := cl n8_138
noncomputable def n8_140 : Code := cl n8_139
noncomputable def n8_141 : Code := cl n8_140
noncomputable def q8_141 : List Oper := opsOf n8_141
noncomputable def n8_142 : Code := cr n8_140
noncomputable def n8_143 : Code := cl n8_142
noncomputable def n8_144 : Code := cl n8_143
noncomputable def q8_144 : List Oper := opsOf n8_144
noncomputable def n8_145 : Code := cr n8_143
noncomputable def n8_146 : Code := cr n8_142
noncomputable def n8_147 : Code := cr n8_138
noncomputable def q8_147 : List Oper := opsOf n8_147
noncomputable def n8_148 : Code := cr n8_127
noncomputable def n8_149 : Code := cl n8_148
noncomputable def q8_149 : List Oper := opsOf n8_149
noncomputable def n8_150 : Code := cr n8_148
theorem body8 : Try.f8.body = some n8_0 := by kernel_rfl
theorem run8 (E : Ev) (args : List Value) (h : List Blk) (hl : args.length ≤ 279) : runB Try.prog E 8 args h = endS Try.prog [.tmp 6] h.length (codeB Try.prog E ⟨8, 279, h.length, none⟩ n8_0 ⟨enumT 0 args, h, []⟩) := GE.run_step Try.func8 body8 (by kernel_rfl) (by decide) (by kernel_rfl) hl
theorem n8_1s : codeB Try.prog E ⟨f, 279, b, ro⟩ n8_1 st = plainS (runOps Try.prog E b q8_1 (ops [false] Try.f8) st) := GE.region_step (id := 0) (GE.reg_of (by kernel_rfl)) (by kernel_rfl)
theorem n8_3s : codeB Try.prog E ⟨f, 279, b, ro⟩ n8_3 st = plainS (runOps Try.prog E b q8_3 (ops [true, false] Try.f8) st) := GE.region_step (id := 1) (GE.reg_of (by kernel_rfl)) (by kernel_rfl)
theorem n8_5s : codeB Try.prog E ⟨f, 279, b, ro⟩ n8_5 st = plainS (runOps Try.prog E b q8_5 (ops [true, true, false] Try.f8) st) := GE.region_step (id := 2) (GE.reg_of (by kernel_rfl)) (by kernel_rfl)
theorem n8_7s : codeB Try.prog E ⟨f, 279, b, ro⟩ n8_7 st = plainS (runOps Try.prog E b q8_7 (ops [true, true, true, false] Try.f8) st) := GE.region_step (id := 3) (GE.reg_of (by kernel_rfl)) (by kernel_rfl)
theorem n8_9s : codeB Try.prog E ⟨f, 279, b, ro⟩ n8_9 st = plainS (runOps Try.prog E b q8_9 (ops [true, true, true, true, false] Try.f8) st) := GE.region_step (id := 4) (GE.reg_of (by kernel_rfl)) (by kernel_rfl)
theorem n8_11s : codeB Try.prog E ⟨f, 279, b, ro⟩ n8_11 st = plainS (runOps Try.prog E b q8_11 (ops [true, true, true, true, true, false] Try.f8) st) := GE.region_step (id := 5) (GE.reg_of (by kernel_rfl)) (by kernel_rfl)
theorem n8_13s : codeB Try.prog E ⟨f, 279, b, ro⟩ n8_13 st = plainS (runOps Try.prog E b q8_13 (ops [true, true, true, true, true, true, false] Try.f8) st) := GE.region_step (id := 6) (GE.reg_of (by kernel_rfl)) (by kernel_rfl)
theorem n8_16s : codeB Try.prog E ⟨f, 279, b, ro⟩ n8_16 st = plainS (runOps Try.prog E b q8_16 (ops [true, true, true, true, true, true, true, false, false] Try.f8) st) := GE.region_step (id := 7) (GE.reg_of (by kernel_rfl)) (by kernel_rfl)
theorem q8_19g2 : gd q8_19 2 = some 59 := by kernel_rfl
theorem q8_19g6 : gd q8_19 6 = some 63 := by kernel_rfl
theorem q8_19g11 : gd q8_19 11 = some 68 := by kernel_rfl
theorem n8_19s : codeB Try.prog E ⟨f, 279, b, ro⟩ n8_19 st = plainS (runOps Try.prog E b q8_19 (ops [true, true, true, true, true, true, true, false, true, false, false] Try.f8) st) := GE.region_step (id := 8) (GE.reg_of (by kernel_rfl)) (by kernel_rfl)
theorem n8_20s : codeB Try.prog LL ⟨8, 279, b, ro⟩ n8_20 st = normS b ⟨[6], []⟩ .ret st := GE.ret_step (by kernel_rfl) (by kernel_rfl)
theorem n8_18s : codeB Try.prog E cx n8_18 st = thenS (codeB Try.prog E cx n8_19 st) (codeB Try.prog E cx n8_20) := GE.seq_step (by kernel_rfl)
theorem n8_21s : codeB Try.prog E cx n8_21 st = some (.normal, st) := GE.skip_step (by kernel_rfl)
theorem n8_17s : codeB Try.prog E cx n8_17 st = condS (codeB Try.prog E cx n8_18) (codeB Try.prog E cx n8_21) (lk st.σ 56) st := GE.cond_step (c := .tmp 56) (by kernel_rfl)
theorem n8_15s : codeB Try.prog E cx n8_15 st = thenS (codeB Try.prog E cx n8_16 st) (codeB Try.prog E cx n8_17) := GE.seq_step (by kernel_rfl)
theorem q8_24g2 : gd q8_24 2 = some 73 := by kernel_rfl
theorem n8_24s : codeB Try.prog E ⟨f, 279, b, ro⟩ n8_24 st = plainS (runOps Try.prog E b q8_24 (ops [true, true, true, true, true, true, true, true, false, false] Try.f8) st) := GE.region_step (id := 9) (GE.reg_of (by kernel_rfl)) (by kernel_rfl)
theorem n8_27s : codeB Try.prog E ⟨f, 279, b, ro⟩ n8_27 st = plainS (runOps Try.prog E b q8_27 (ops [true, true, true, true, true, true, true, true, false, true, false, false] Try.f8) st) := GE.region_step (id := 10) (GE.reg_of (by kernel_rfl)) (by kernel_rfl)
theorem n8_28s : codeB Try.prog LL ⟨8, 279, b, ro⟩ n8_28 st = normS b ⟨[6], []⟩ .ret st := GE.ret_step (by kernel_rfl) (by kernel_rfl)
theorem n8_26s : codeB Try.prog E cx n8_26 st = thenS (codeB Try.prog E cx n8_27 st) (codeB Try.prog E cx n8_28) := GE.seq_step (by kernel_rfl)
theorem n8_29s : codeB Try.prog E cx n8_29 st = some (.normal, st) := GE.skip_step (by kernel_rfl)
theorem n8_25s : codeB Try.prog E cx n8_25 st = condS (codeB Try.prog E cx n8_26) (codeB Try.prog E cx n8_29) (lk st.σ 80) st := GE.cond_step (c := .tmp 80) (by kernel_rfl)
theorem n8_23s : codeB Try.prog E cx n8_23 st = thenS (codeB Try.prog E cx n8_24 st) (codeB Try.prog E cx n8_25) := GE.seq_step (by kernel_rfl)
theorem n8_31s : codeB Try.prog E ⟨f, 279, b, ro⟩ n8_31 st = plainS (runOps Try.prog E b q8_31 (ops [true, true, true, true, true, true, true, true, true, false] Try.f8) st) := GE.region_step (id := 11) (GE.reg_of (by kernel_rfl)) (by kernel_rfl)
theorem n8_34s : codeB Try.prog E ⟨f, 279, b, ro⟩ n8_34 st = plainS (runOps Try.prog E b q8_34 (ops [true, true, true, true, true, true, true, true, true, true, false, false] Try.f8) st) := GE.region_step (id := 12) (GE.reg_of (by kernel_rfl)) (by kernel_rfl)
theorem n8_38s : codeB Try.prog E ⟨f, 279, b, ro⟩ n8_38 st = plainS (runOps Try.prog E b q8_38 (ops [true, true, true, true, true, true, true, true, true, true, false, true, false, false, false] Try.f8) st) := GE.region_step (id := 13) (GE.reg_of (by kernel_rfl)) (by kernel_rfl)
theorem n8_41s : codeB Try.prog E cx n8_41 st = some (.normal, st) := GE.skip_step (by kernel_rfl)
theorem n8_42s : codeB Try.prog LL ⟨8, 279, b, ro⟩ n8_42 st = normS b ⟨[9, 10, 11, 12, 15], []⟩ (.exit 0) st := GE.exit_step (by kernel_rfl) (by kernel_rfl)
theorem n8_40s : codeB Try.prog E cx n8_40 st = condS (codeB Try.prog E cx n8_41) (codeB Try.prog E cx n8_42) (lk st.σ 85) st := GE.cond_step (c := .tmp 85) (by kernel_rfl)
theorem n8_46s : codeB Try.prog E ⟨f, 279, b, ro⟩ n8_46 st = plainS (runOps Try.prog E b q8_46 (ops [true, true, true, true, true, true, true, true, true, true, false, true, false, false, true, true, false, false, false] Try.f8) st) := GE.region_step (id := 14) (GE.reg_of (by kernel_rfl)) (by kernel_rfl)
theorem n8_48s : codeB Try.prog E ⟨f, 279, b, ro⟩ n8_48 st = plainS (runOps Try.prog E b q8_48 (ops [true, true, true, true, true, true, true, true, true, true, false, true, false, false, true, true, false, false, true, false] Try.f8) st) := GE.region_step (id := 15) (GE.reg_of (by kernel_rfl)) (by kernel_rfl)
theorem n8_51s : codeB Try.prog E ⟨f, 279, b, ro⟩ n8_51 st = plainS (runOps Try.prog E b q8_51 (ops [true, true, true, true, true, true, true, true, true, true, false, true, false, false, true, true, false, false, true, true, false, false] Try.f8) st) := GE.region_step (id := 16) (GE.reg_of (by kernel_rfl)) (by kernel_rfl)
theorem n8_55s : codeB Try.prog E ⟨f, 279, b, ro⟩ n8_55 st = plainS (runOps Try.prog E b q8_55 (ops [true, true, true, true, true, true, true, true, true, true, false, true, false, false, true, true, false, false, true, true, false, true, false, false, false] Try.f8) st) := GE.region_step (id := 17) (GE.reg_of (by kernel_rfl)) (by kernel_rfl)
theorem n8_58s : codeB Try.prog E cx n8_58 st = some (.normal, st) := GE.skip_step (by kernel_rfl)
theorem n8_59s : codeB Try.prog LL ⟨8, 279, b, ro⟩ n8_59 st = normS b ⟨[16, 17, 18, 7, 8, 9, 10, 11, 12, 13, 15, 82, 83, 84], [⟨7, 2, 3, true⟩, ⟨8, 0, 1, true⟩, ⟨13, 0, 1, true⟩, ⟨82, 0, 3, true⟩]⟩ (.exit 2) st := GE.exit_step (by kernel_rfl) (by kernel_rfl)
theorem n8_57s : codeB Try.prog E cx n8_57 st = condS (codeB Try.prog E cx n8_58) (codeB Try.prog E cx n8_59) (lk st.σ 92) st := GE.cond_step (c := .tmp 92) (by kernel_rfl)
theorem n8_63s : codeB Try.prog E ⟨f, 279, b, ro⟩ n8_63 st = plainS (runOps Try.prog E b q8_63 (ops [true, true, true, true, true, true, true, true, true, true, false, true, false, false, true, true, false, false, true, true, false, true, false, false, true, true, false, false, false] Try.f8) st) := GE.region_step (id := 18) (GE.reg_of (by kernel_rfl)) (by kernel_rfl)
theorem q8_64g1 : gd q8_64 1 = some 96 := by kernel_rfl
theorem n8_64s : codeB Try.prog E ⟨f, 279, b, ro⟩ n8_64 st = plainS (runOps Try.prog E b q8_64 (ops [true, true, true, true, true, true, true, true, true, true, false, true, false, false, true, true, false, false, true, true, false, true, false, false, true, true, false, false, true] Try.f8) st) := GE.region_step (id := 19) (GE.reg_of (by kernel_rfl)) (by kernel_rfl)
theorem n8_62s : codeB Try.prog E cx n8_62 st = thenS (codeB Try.prog E cx n8_63 st) (codeB Try.prog E cx n8_64) := GE.seq_step (by kernel_rfl)
theorem n8_61s : codeB Try.prog E cx n8_61 st = blockS 3 (codeB Try.prog E cx n8_62 st) st := GE.block_step (by kernel_rfl)
theorem n8_65s : codeB Try.prog E ⟨f, 279, b, ro⟩ n8_65 st = plainS (runOps Try.prog E b q8_65 (ops [true, true, true, true, true, true, true, true, true, true, false, true, false, false, true, true, false, false, true, true, false, true, false, false, true, true, true] Try.f8) st) := GE.region_step (id := 20) (GE.reg_of (by kernel_rfl)) (by kernel_rfl)
theorem n8_60s : codeB Try.prog E cx n8_60 st = thenS (codeB Try.prog E cx n8_61 st) (codeB Try.prog E cx n8_65) := GE.seq_step (by kernel_rfl)
theorem n8_56s : codeB Try.prog E cx n8_56 st = thenS (codeB Try.prog E cx n8_57 st) (codeB Try.prog E cx n8_60) := GE.seq_step (by kernel_rfl)
theorem n8_54s : codeB Try.prog E cx n8_54 st = thenS (codeB Try.prog E cx n8_55 st) (codeB Try.prog E cx n8_56) := GE.seq_step (by kernel_rfl)
theorem n8_53k : LL.kp (⟨8, 279, b, ro⟩ : Cx).fn (4 * rid n8_54 + 3) = some ⟨[16, 17, 18, 89, 90, 91, 7, 8, 9, 10, 11, 12, 13, 15, 82, 83, 84], [⟨89, 0, 1, true⟩, ⟨7, 2, 3, true⟩, ⟨8, 0, 1, true⟩, ⟨13, 0, 1, true⟩, ⟨82, 0, 3, true⟩]⟩ := by kernel_rfl
theorem n8_53s : codeB Try.prog LL ⟨8, 279, b, ro⟩ n8_53 st = headS b ⟨[16, 17, 18, 89, 90, 91, 7, 8, 9, 10, 11, 12, 13, 15, 82, 83, 84], [⟨89, 0, 1, true⟩, ⟨7, 2, 3, true⟩, ⟨8, 0, 1, true⟩, ⟨13, 0, 1, true⟩, ⟨82, 0, 3, true⟩]⟩ st (lpB Try.prog LL ⟨8, 279, b, ro⟩ n8_53 n8_54) := GE.lpB_step (by kernel_rfl) (n8_53k b ro)
theorem n8_53g : LL.code ⟨8, 279, b, ro⟩ n8_53 st = headS b ⟨[16, 17, 18, 89, 90, 91, 7, 8, 9, 10, 11, 12, 13, 15, 82, 83, 84], [⟨89, 0, 1, true⟩, ⟨7, 2, 3, true⟩, ⟨8, 0, 1, true⟩, ⟨13, 0, 1, true⟩, ⟨82, 0, 3, true⟩]⟩ st (lpB Try.prog LL ⟨8, 279, b, ro⟩ n8_53 n8_54) := GE.lpB_again (by kernel_rfl) (n8_53k b ro)
theorem n8_52s : codeB Try.prog E cx n8_52 st = blockS 2 (codeB Try.prog E cx n8_53 st) st := GE.block_step (by kernel_rfl)
theorem n8_50s : codeB Try.prog E cx n8_50 st = thenS (codeB Try.prog E cx n8_51 st) (codeB Try.prog E cx n8_52) := GE.seq_step (by kernel_rfl)
theorem q8_67g1 : gd q8_67 1 = some 108 := by kernel_rfl
theorem n8_67s : codeB Try.prog E ⟨f, 279, b, ro⟩ n8_67 st = plainS (runOps Try.prog E b q8_67 (ops [true, true, true, true, true, true, true, true, true, true, false, true, false, false, true, true, false, false, true, true, true, false] Try.f8) st) := GE.region_step (id := 21) (GE.reg_of (by kernel_rfl)) (by kernel_rfl)
theorem q8_70g8 : gd q8_70 8 = some 120 := by kernel_rfl
theorem q8_70g18 : gd q8_70 18 = some 130 := by kernel_rfl
theorem q8_70g31 : gd q8_70 31 = some 143 := by kernel_rfl
theorem q8_70g40 : gd q8_70 40 = some 152 := by kernel_rfl
theorem n8_70s : codeB Try.prog E ⟨f, 279, b, ro⟩ n8_70 st = drawS [0, 0, 3, 7, 0, 16, 48, 127, 255, 511, 511, 2047, 4095, 511, 8703, 25087, 65535, 131071, 262143, 524287, 1048575, 524287, 524287, 6815743, 15204351, 31981567, 2097151, 134217727, 268435455, 536870911, 1073741823, 2147483647, 4294967295, 4294967295, 17179869183, 34359738367, 4294967295, 73014444031, 210453397503, 549755813887, 1099511627775, 2199023255551, 4398046511103, 2199023255551, 2199023255551, 28587302322175, 63771674411007, 134140418588671, 8796093022207, 562949953421311, 1125899906842623, 2251799813685247, 4503599627370495] (runOpsF Try.prog E b q8_70 (ops [true, true, true, true, true, true, true, true, true, true, false, true, false, false, true, true, false, false, true, true, true, true, false, false] Try.f8) st) := GE.draw_step (id := 22) (GE.reg_of (by kernel_rfl)) (by kernel_rfl) (by kernel_rfl) (by kernel_rfl)
theorem n8_73s : codeB Try.prog E ⟨f, 279, b, ro⟩ n8_73 st = plainS (runOps Try.prog E b q8_73 (ops [true, true, true, true, true, true, true, true, true, true, false, true, false, false, true, true, false, false, true, true, true, true, false, true, false, false] Try.f8) st) := GE.region_step (id := 23) (GE.reg_of (by kernel_rfl)) (by kernel_rfl)
theorem n8_74s : codeB Try.prog LL ⟨8, 279, b, ro⟩ n8_74 st = normS b ⟨[6], []⟩ .ret st := GE.ret_step (by kernel_rfl) (by kernel_rfl)
theorem n8_72s : codeB Try.prog E cx n8_72 st = thenS (codeB Try.prog E cx n8_73 st) (codeB Try.prog E cx n8_74) := GE.seq_step (by kernel_rfl)
theorem n8_75s : codeB Try.prog E cx n8_75 st = some (.normal, st) := GE.skip_step (by kernel_rfl)
theorem n8_71s : codeB Try.prog E cx n8_71 st = condS (codeB Try.prog E cx n8_72) (codeB Try.prog E cx n8_75) (lk st.σ 164) st := GE.cond_step (c := .tmp 164) (by kernel_rfl)
theorem n8_69s : codeB Try.prog E cx n8_69 st = thenS (codeB Try.prog E cx n8_70 st) (codeB Try.prog E cx n8_71) := GE.seq_step (by kernel_rfl)
theorem n8_78s : codeB Try.prog E ⟨f, 279, b, ro⟩ n8_78 st = plainS (runOps Try.prog E b q8_78 (ops [true, true, true, true, true, true, true, true, true, true, false, true, false, false, true, true, false, false, true, true, true, true, true, false, false] Try.f8) st) := GE.region_step (id := 24) (GE.reg_of (by kernel_rfl)) (by kernel_rfl)
theorem n8_80s : codeB Try.prog LL ⟨8, 279, b, ro⟩ n8_80 st = normS b ⟨[7, 8, 9, 10, 11, 12, 13, 15, 82, 83, 84], [⟨7, 2, 3, true⟩, ⟨8, 0, 1, true⟩, ⟨13, 0, 1, true⟩, ⟨82, 0, 3, true⟩]⟩ (.exit 1) st := GE.exit_step (by kernel_rfl) (by kernel_rfl)
theorem n8_81s : codeB Try.prog E cx n8_81 st = some (.normal, st) := GE.skip_step (by kernel_rfl)
theorem n8_79s : codeB Try.prog E cx n8_79 st = condS (codeB Try.prog E cx n8_80) (codeB Try.prog E cx n8_81) (lk st.σ 166) st := GE.cond_step (c := .tmp 166) (by kernel_rfl)
theorem n8_77s : codeB Try.prog E cx n8_77 st = thenS (codeB Try.prog E cx n8_78 st) (codeB Try.prog E cx n8_79) := GE.seq_step (by kernel_rfl)
theorem n8_83s : codeB Try.prog E ⟨f, 279, b, ro⟩ n8_83 st = plainS (runOps Try.prog E b q8_83 (ops [true, true, true, true, true, true, true, true, true, true, false, true, false, false, true, true, false, false, true, true, true, true, true, true, false] Try.f8) st) := GE.region_step (id := 25) (GE.reg_of (by kernel_rfl)) (by kernel_rfl)
theorem n8_86s : codeB Try.prog E ⟨f, 279, b, ro⟩ n8_86 st = plainS (runOps Try.prog E b q8_86 (ops [true, true, true, true, true, true, true, true, true, true, false, true, false, false, true, true, false, false, true, true, true, true, true, true, true, false, false] Try.f8) st) := GE.region_step (id := 26) (GE.reg_of (by kernel_rfl)) (by kernel_rfl)
theorem n8_90s : codeB Try.prog E ⟨f, 279, b, ro⟩ n8_90 st = plainS (runOps Try.prog E b q8_90 (ops [true, true, true, true, true, true, true, true, true, true, false, true, false, false, true, true, false, false, true, true, true, true, true, true, true, false, true, false, false, false] Try.f8) st) := GE.region_step (id := 27) (GE.reg_of (by kernel_rfl)) (by kernel_rfl)
theorem n8_93s : codeB Try.prog E cx n8_93 st = some (.normal, st) := GE.skip_step (by kernel_rfl)
theorem n8_94s : codeB Try.prog LL ⟨8, 279, b, ro⟩ n8_94 st = normS b ⟨[16, 17, 21, 7, 8, 9, 10, 11, 12, 13, 15, 82, 83, 84], [⟨7, 2, 3, true⟩, ⟨8, 0, 1, true⟩, ⟨13, 0, 1, true⟩, ⟨82, 0, 3, true⟩]⟩ (.exit 4) st := GE.exit_step (by kernel_rfl) (by kernel_rfl)
theorem n8_92s : codeB Try.prog E cx n8_92 st = condS (codeB Try.prog E cx n8_93) (codeB Try.prog E cx n8_94) (lk st.σ 170) st := GE.cond_step (c := .tmp 170) (by kernel_rfl)
theorem n8_98s : codeB Try.prog E ⟨f, 279, b, ro⟩ n8_98 st = plainS (runOps Try.prog E b q8_98 (ops [true, true, true, true, true, true, true, true, true, true, false, true, false, false, true, true, false, false, true, true, true, true, true, true, true, false, true, false, false, true, true, false, false, false] Try.f8) st) := GE.region_step (id := 28) (GE.reg_of (by kernel_rfl)) (by kernel_rfl)
theorem q8_99g1 : gd q8_99 1 = some 174 := by kernel_rfl
theorem q8_99g11 : gd q8_99 11 = some 184 := by kernel_rfl
theorem n8_99s : codeB Try.prog E ⟨f, 279, b, ro⟩ n8_99 st = plainS (runOps Try.prog E b q8_99 (ops [true, true, true, true, true, true, true, true, true, true, false, true, false, false, true, true, false, false, true, true, true, true, true, true, true, false, true, false, false, true, true, false, false, true] Try.f8) st) := GE.region_step (id := 29) (GE.reg_of (by kernel_rfl)) (by kernel_rfl)
theorem n8_97s : codeB Try.prog E cx n8_97 st = thenS (codeB Try.prog E cx n8_98 st) (codeB Try.prog E cx n8_99) := GE.seq_step (by kernel_rfl)
theorem n8_96s : codeB Try.prog E cx n8_96 st = blockS 5 (codeB Try.prog E cx n8_97 st) st := GE.block_step (by kernel_rfl)
theorem n8_100s : codeB Try.prog E ⟨f, 279, b, ro⟩ n8_100 st = plainS (runOps Try.prog E b q8_100 (ops [true, true, true, true, true, true, true, true, true, true, false, true, false, false, true, true, false, false, true, true, true, true, true, true, true, false, true, false, false, true, true, true] Try.f8) st) := GE.region_step (id := 30) (GE.reg_of (by kernel_rfl)) (by kernel_rfl)
theorem n8_95s : codeB Try.prog E cx n8_95 st = thenS (codeB Try.prog E cx n8_96 st) (codeB Try.prog E cx n8_100) := GE.seq_step (by kernel_rfl)
theorem n8_91s : codeB Try.prog E cx n8_91 st = thenS (codeB Try.prog E cx n8_92 st) (codeB Try.prog E cx n8_95) := GE.seq_step (by kernel_rfl)
theorem n8_89s : codeB Try.prog E cx n8_89 st = thenS (codeB Try.prog E cx n8_90 st) (codeB Try.prog E cx n8_91) := GE.seq_step (by kernel_rfl)
theorem n8_88k : LL.kp (⟨8, 279, b, ro⟩ : Cx).fn (4 * rid n8_89 + 3) = some ⟨[16, 17, 21, 167, 168, 169, 7, 8, 9, 10, 11, 12, 13, 15, 82, 83, 84], [⟨167, 0, 1, true⟩, ⟨7, 2, 3, true⟩, ⟨8, 0, 1, true⟩, ⟨13, 0, 1, true⟩, ⟨82, 0, 3, true⟩]⟩ := by kernel_rfl
theorem n8_88s : codeB Try.prog LL ⟨8, 279, b, ro⟩ n8_88 st = headS b ⟨[16, 17, 21, 167, 168, 169, 7, 8, 9, 10, 11, 12, 13, 15, 82, 83, 84], [⟨167, 0, 1, true⟩, ⟨7, 2, 3, true⟩, ⟨8, 0, 1, true⟩, ⟨13, 0, 1, true⟩, ⟨82, 0, 3, true⟩]⟩ st (lpB Try.prog LL ⟨8, 279, b, ro⟩ n8_88 n8_89) := GE.lpB_step (by kernel_rfl) (n8_88k b ro)
theorem n8_88g : LL.code ⟨8, 279, b, ro⟩ n8_88 st = headS b ⟨[16, 17, 21, 167, 168, 169, 7, 8, 9, 10, 11, 12, 13, 15, 82, 83, 84], [⟨167, 0, 1, true⟩, ⟨7, 2, 3, true⟩, ⟨8, 0, 1, true⟩, ⟨13, 0, 1, true⟩, ⟨82, 0, 3, true⟩]⟩ st (lpB Try.prog LL ⟨8, 279, b, ro⟩ n8_88 n8_89) := GE.lpB_again (by kernel_rfl) (n8_88k b ro)
theorem n8_87s : codeB Try.prog E cx n8_87 st = blockS 4 (codeB Try.prog E cx n8_88 st) st := GE.block_step (by kernel_rfl)
theorem n8_85s : codeB Try.prog E cx n8_85 st = thenS (codeB Try.prog E cx n8_86 st) (codeB Try.prog E cx n8_87) := GE.seq_step (by kernel_rfl)
theorem n8_102s : codeB Try.prog E ⟨f, 279, b, ro⟩ n8_102 st = drawS [0, 1, 0, 4, 0, 16, 60, 124, 252, 511, 1023] (runOpsF Try.prog E b q8_102 (ops [true, true, true, true, true, true, true, true, true, true, false, true, false, false, true, true, false, false, true, true, true, true, true, true, true, true, false] Try.f8) st) := GE.draw_step (id := 31) (GE.reg_of (by kernel_rfl)) (by kernel_rfl) (by kernel_rfl) (by kernel_rfl)
theorem q8_104g2 : gd q8_104 2 = some 204 := by kernel_rfl
theorem q8_104g18 : gd q8_104 18 = some 220 := by kernel_rfl
theorem n8_104s : codeB Try.prog E ⟨f, 279, b, ro⟩ n8_104 st = drawS [0, 1, 3, 7, 7, 31, 63, 7, 7, 263, 903, 1927, 4095, 7, 7, 16391, 57351, 131071, 262143, 524287, 524287, 1572863, 4194303, 8388607, 524287, 524287, 50855935, 117964799, 268435455, 524287, 524287, 1074266111, 3758620671, 8589934591, 17179869183, 34359738367] (runOpsF Try.prog E b q8_104 (ops [true, true, true, true, true, true, true, true, true, true, false, true, false, false, true, true, false, false, true, true, true, true, true, true, true, true, true, false] Try.f8) st) := GE.draw_step (id := 32) (GE.reg_of (by kernel_rfl)) (by kernel_rfl) (by kernel_rfl) (by kernel_rfl)
theorem n8_107s : codeB Try.prog E ⟨f, 279, b, ro⟩ n8_107 st = plainS (runOps Try.prog E b q8_107 (ops [true, true, true, true, true, true, true, true, true, true, false, true, false, false, true, true, false, false, true, true, true, true, true, true, true, true, true, true, false, false] Try.f8) st) := GE.region_step (id := 33) (GE.reg_of (by kernel_rfl)) (by kernel_rfl)
theorem n8_108s : codeB Try.prog LL ⟨8, 279, b, ro⟩ n8_108 st = normS b ⟨[6], []⟩ .ret st := GE.ret_step (by kernel_rfl) (by kernel_rfl)
theorem n8_106s : codeB Try.prog E cx n8_106 st = thenS (codeB Try.prog E cx n8_107 st) (codeB Try.prog E cx n8_108) := GE.seq_step (by kernel_rfl)
theorem n8_109s : codeB Try.prog E cx n8_109 st = some (.normal, st) := GE.skip_step (by kernel_rfl)
theorem n8_105s : codeB Try.prog E cx n8_105 st = condS (codeB Try.prog E cx n8_106) (codeB Try.prog E cx n8_109) (lk st.σ 237) st := GE.cond_step (c := .tmp 237) (by kernel_rfl)
theorem n8_103s : codeB Try.prog E cx n8_103 st = thenS (codeB Try.prog E cx n8_104 st) (codeB Try.prog E cx n8_105) := GE.seq_step (by kernel_rfl)
theorem n8_101s : codeB Try.prog E cx n8_101 st = thenS (codeB Try.prog E cx n8_102 st) (codeB Try.prog E cx n8_103) := GE.seq_step (by kernel_rfl)
theorem n8_84s : codeB Try.prog E cx n8_84 st = thenS (codeB Try.prog E cx n8_85 st) (codeB Try.prog E cx n8_101) := GE.seq_step (by kernel_rfl)
theorem n8_82s : codeB Try.prog E cx n8_82 st = thenS (codeB Try.prog E cx n8_83 st) (codeB Try.prog E cx n8_84) := GE.seq_step (by kernel_rfl)
theorem n8_76s : codeB Try.prog E cx n8_76 st = thenS (codeB Try.prog E cx n8_77 st) (codeB Try.prog E cx n8_82) := GE.seq_step (by kernel_rfl)
theorem n8_68s : codeB Try.prog E cx n8_68 st = thenS (codeB Try.prog E cx n8_69 st) (codeB Try.prog E cx n8_76) := GE.seq_step (by kernel_rfl)
theorem n8_66s : codeB Try.prog E cx n8_66 st = thenS (codeB Try.prog E cx n8_67 st) (codeB Try.prog E cx n8_68) := GE.seq_step (by kernel_rfl)
theorem n8_49s : codeB Try.prog E cx n8_49 st = thenS (codeB Try.prog E cx n8_50 st) (codeB Try.prog E cx n8_66) := GE.seq_step (by kernel_rfl)
theorem n8_47s : codeB Try.prog E cx n8_47 st = thenS (codeB Try.prog E cx n8_48 st) (codeB Try.prog E cx n8_49) := GE.seq_step (by kernel_rfl)
theorem n8_45s : codeB Try.prog E cx n8_45 st = thenS (codeB Try.prog E cx n8_46 st) (codeB Try.prog E cx n8_47) := GE.seq_step (by kernel_rfl)
theorem n8_44s : codeB Try.prog E cx n8_44 st = blockS 1 (codeB Try.prog E cx n8_45 st) st := GE.block_step (by kernel_rfl)
theorem n8_110s : codeB Try.prog E ⟨f, 279, b, ro⟩ n8_110 st = plainS (runOps Try.prog E b q8_110 (ops [true, true, true, true, true, true, true, true, true, true, false, true, false, false, true, true, true] Try.f8) st) := GE.region_step (id := 34) (GE.reg_of (by kernel_rfl)) (by kernel_rfl)
theorem n8_43s : codeB Try.prog E cx n8_43 st = thenS (codeB Try.prog E cx n8_44 st) (codeB Try.prog E cx n8_110) := GE.seq_step (by kernel_rfl)
theorem n8_39s : codeB Try.prog E cx n8_39 st = thenS (codeB Try.prog E cx n8_40 st) (codeB Try.prog E cx n8_43) := GE.seq_step (by kernel_rfl)
theorem n8_37s : codeB Try.prog E cx n8_37 st = thenS (codeB Try.prog E cx n8_38 st) (codeB Try.prog E cx n8_39) := GE.seq_step (by kernel_rfl)
theorem n8_36k : LL.kp (⟨8, 279, b, ro⟩ : Cx).fn (4 * rid n8_37 + 3) = some ⟨[7, 8, 9, 10, 11, 12, 13, 15, 82, 83, 84], [⟨7, 2, 3, true⟩, ⟨8, 0, 1, true⟩, ⟨13, 0, 1, true⟩, ⟨82, 0, 3, true⟩]⟩ := by kernel_rfl
theorem n8_36s : codeB Try.prog LL ⟨8, 279, b, ro⟩ n8_36 st = headS b ⟨[7, 8, 9, 10, 11, 12, 13, 15, 82, 83, 84], [⟨7, 2, 3, true⟩, ⟨8, 0, 1, true⟩, ⟨13, 0, 1, true⟩, ⟨82, 0, 3, true⟩]⟩ st (lpB Try.prog LL ⟨8, 279, b, ro⟩ n8_36 n8_37) := GE.lpB_step (by kernel_rfl) (n8_36k b ro)
theorem n8_36g : LL.code ⟨8, 279, b, ro⟩ n8_36 st = headS b ⟨[7, 8, 9, 10, 11, 12, 13, 15, 82, 83, 84], [⟨7, 2, 3, true⟩, ⟨8, 0, 1, true⟩, ⟨13, 0, 1, true⟩, ⟨82, 0, 3, true⟩]⟩ st (lpB Try.prog LL ⟨8, 279, b, ro⟩ n8_36 n8_37) := GE.lpB_again (by kernel_rfl) (n8_36k b ro)
theorem n8_35s : codeB Try.prog E cx n8_35 st = blockS 0 (codeB Try.prog E cx n8_36 st) st := GE.block_step (by kernel_rfl)
theorem n8_33s : codeB Try.prog E cx n8_33 st = thenS (codeB Try.prog E cx n8_34 st) (codeB Try.prog E cx n8_35) := GE.seq_step (by kernel_rfl)
theorem n8_113s : codeB Try.prog E ⟨f, 279, b, ro⟩ n8_113 st = plainS (runOps Try.prog E b q8_113 (ops [true, true, true, true, true, true, true, true, true, true, true, false, false] Try.f8) st) := GE.region_step (id := 35) (GE.reg_of (by kernel_rfl)) (by kernel_rfl)
theorem q8_116g2 : gd q8_116 2 = some 243 := by kernel_rfl
theorem n8_116s : codeB Try.prog E ⟨f, 279, b, ro⟩ n8_116 st = plainS (runOps Try.prog E b q8_116 (ops [true, true, true, true, true, true, true, true, true, true, true, false, true, false, false] Try.f8) st) := GE.region_step (id := 36) (GE.reg_of (by kernel_rfl)) (by kernel_rfl)
theorem n8_117s : codeB Try.prog LL ⟨8, 279, b, ro⟩ n8_117 st = normS b ⟨[6], []⟩ .ret st := GE.ret_step (by kernel_rfl) (by kernel_rfl)
theorem n8_115s : codeB Try.prog E cx n8_115 st = thenS (codeB Try.prog E cx n8_116 st) (codeB Try.prog E cx n8_117) := GE.seq_step (by kernel_rfl)
theorem n8_118s : codeB Try.prog E cx n8_118 st = some (.normal, st) := GE.skip_step (by kernel_rfl)
theorem n8_114s : codeB Try.prog E cx n8_114 st = condS (codeB Try.prog E cx n8_115) (codeB Try.prog E cx n8_118) (lk st.σ 240) st := GE.cond_step (c := .tmp 240) (by kernel_rfl)
theorem n8_112s : codeB Try.prog E cx n8_112 st = thenS (codeB Try.prog E cx n8_113 st) (codeB Try.prog E cx n8_114) := GE.seq_step (by kernel_rfl)
theorem n8_121s : codeB Try.prog E ⟨f, 279, b, ro⟩ n8_121 st = plainS (runOps Try.prog E b q8_121 (ops [true, true, true, true, true, true, true, true, true, true, true, true, false, false] Try.f8) st) := GE.region_step (id := 37) (GE.reg_of (by kernel_rfl)) (by kernel_rfl)
theorem n8_124s : codeB Try.prog E ⟨f, 279, b, ro⟩ n8_124 st = plainS (runOps Try.prog E b q8_124 (ops [true, true, true, true, true, true, true, true, true, true, true, true, false, true, false, false] Try.f8) st) := GE.region_step (id := 38) (GE.reg_of (by kernel_rfl)) (by kernel_rfl)
theorem n8_125s : codeB Try.prog LL ⟨8, 279, b, ro⟩ n8_125 st = normS b ⟨[6], []⟩ .ret st := GE.ret_step (by kernel_rfl) (by kernel_rfl)
theorem n8_123s : codeB Try.prog E cx n8_123 st = thenS (codeB Try.prog E cx n8_124 st) (codeB Try.prog E cx n8_125) := GE.seq_step (by kernel_rfl)
theorem n8_126s : codeB Try.prog E cx n8_126 st = some (.normal, st) := GE.skip_step (by kernel_rfl)
theorem n8_122s : codeB Try.prog E cx n8_122 st = condS (codeB Try.prog E cx n8_123) (codeB Try.prog E cx n8_126) (lk st.σ 247) st := GE.cond_step (c := .tmp 247) (by kernel_rfl)
theorem n8_120s : codeB Try.prog E cx n8_120 st = thenS (codeB Try.prog E cx n8_121 st) (codeB Try.prog E cx n8_122) := GE.seq_step (by kernel_rfl)
theorem n8_129s : codeB Try.prog E ⟨f, 279, b, ro⟩ n8_129 st = plainS (runOps Try.prog E b q8_129 (ops [true, true, true, true, true, true, true, true, true, true, true, true, true, false, false] Try.f8) st) := GE.region_step (id := 39) (GE.reg_of (by kernel_rfl)) (by kernel_rfl)
theorem n8_134s : codeB Try.prog E ⟨f, 279, b, ro⟩ n8_134 st = plainS (runOps Try.prog E b q8_134 (ops [true, true, true, true, true, true, true, true, true, true, true, true, true, false, true, false, false, false, false] Try.f8) st) := GE.region_step (id := 40) (GE.reg_of (by kernel_rfl)) (by kernel_rfl)
theorem n8_136s : codeB Try.prog E cx n8_136 st = some (.normal, st) := GE.skip_step (by kernel_rfl)
theorem n8_137s : codeB Try.prog LL ⟨8, 279, b, ro⟩ n8_137 st = normS b ⟨[], []⟩ (.exit 6) st := GE.exit_step (by kernel_rfl) (by kernel_rfl)
theorem n8_135s : codeB Try.prog E cx n8_135 st = condS (codeB Try.prog E cx n8_136) (codeB Try.prog E cx n8_137) (lk st.σ 249) st := GE.cond_step (c := .tmp 249) (by kernel_rfl)
theorem n8_133s : codeB Try.prog E cx n8_133 st = thenS (codeB Try.prog E cx n8_134 st) (codeB Try.prog E cx n8_135) := GE.seq_step (by kernel_rfl)
theorem q8_141g10 : gd q8_141 10 = some 262 := by kernel_rfl
theorem q8_141g18 : gd q8_141 18 = some 270 := by kernel_rfl
theorem q8_141g22 : gd q8_141 22 = some 274 := by kernel_rfl
theorem n8_141s : codeB Try.prog E ⟨f, 279, b, ro⟩ n8_141 st = drawS [0, 0, 1, 7, 15, 0, 32, 0, 128, 480, 992, 2016, 4064, 2016, 10208, 32736, 65504, 131071, 262143, 524287, 1048575, 2097151, 4194303, 8388607, 16777215, 33554431] (runOpsF Try.prog E b q8_141 (ops [true, true, true, true, true, true, true, true, true, true, true, true, true, false, true, false, false, true, false, false, false] Try.f8) st) := GE.draw_step (id := 42) (GE.reg_of (by kernel_rfl)) (by kernel_rfl) (by kernel_rfl) (by kernel_rfl)
theorem n8_144s : codeB Try.prog E ⟨f, 279, b, ro⟩ n8_144 st = plainS (runOps Try.prog E b q8_144 (ops [true, true, true, true, true, true, true, true, true, true, true, true, true, false, true, false, false, true, false, false, true, false, false] Try.f8) st) := GE.region_step (id := 43) (GE.reg_of (by kernel_rfl)) (by kernel_rfl)
theorem n8_145s : codeB Try.prog LL ⟨8, 279, b, ro⟩ n8_145 st = normS b ⟨[6], []⟩ .ret st := GE.ret_step (by kernel_rfl) (by kernel_rfl)
theorem n8_143s : codeB Try.prog E cx n8_143 st = thenS (codeB Try.prog E cx n8_144 st) (codeB Try.prog E cx n8_145) := GE.seq_step (by kernel_rfl)
theorem n8_146s : codeB Try.prog E cx n8_146 st = some (.normal, st) := GE.skip_step (by kernel_rfl)
theorem n8_142s : codeB Try.prog E cx n8_142 st = condS (codeB Try.prog E cx n8_143) (codeB Try.prog E cx n8_146) (lk st.σ 277) st := GE.cond_step (c := .tmp 277) (by kernel_rfl)
theorem n8_140s : codeB Try.prog E cx n8_140 st = thenS (codeB Try.prog E cx n8_141 st) (codeB Try.prog E cx n8_142) := GE.seq_step (by kernel_rfl)
theorem n8_139s : codeB Try.prog E cx n8_139 st = blockS 7 (codeB Try.prog E cx n8_140 st) st := GE.block_step (by kernel_rfl)
theorem n8_147s : codeB Try.prog E ⟨f, 279, b, ro⟩ n8_147 st = plainS (runOps Try.prog E b q8_147 (ops [true, true, true, true, true, true, true, true, true, true, true, true, true, false, true, false, false, true, true] Try.f8) st) := GE.region_step (id := 41) (GE.reg_of (by kernel_rfl)) (by kernel_rfl)
theorem n8_138s : codeB Try.prog E cx n8_138 st = thenS (codeB Try.prog E cx n8_139 st) (codeB Try.prog E cx n8_147) := GE.seq_step (by kernel_rfl)
theorem n8_132s : codeB Try.prog E cx n8_132 st = thenS (codeB Try.prog E cx n8_133 st) (codeB Try.prog E cx n8_138) := GE.seq_step (by kernel_rfl)
theorem n8_131k : LL.kp (⟨8, 279, b, ro⟩ : Cx).fn (4 * rid n8_132 + 3) = some ⟨[9, 10, 11, 25], []⟩ := by kernel_rfl
theorem n8_131s : codeB Try.prog LL ⟨8, 279, b, ro⟩ n8_131 st = headS b ⟨[9, 10, 11, 25], []⟩ st (lpB Try.prog LL ⟨8, 279, b, ro⟩ n8_131 n8_132) := GE.lpB_step (by kernel_rfl) (n8_131k b ro)
theorem n8_131g : LL.code ⟨8, 279, b, ro⟩ n8_131 st = headS b ⟨[9, 10, 11, 25], []⟩ st (lpB Try.prog LL ⟨8, 279, b, ro⟩ n8_131 n8_132) := GE.lpB_again (by kernel_rfl) (n8_131k b ro)
theorem n8_130s : codeB Try.prog E cx n8_130 st = blockS 6 (codeB Try.prog E cx n8_131 st) st := GE.block_step (by kernel_rfl)
theorem n8_128s : codeB Try.prog E cx n8_128 st = thenS (codeB Try.prog E cx n8_129 st) (codeB Try.prog E cx n8_130) := GE.seq_step (by kernel_rfl)
theorem n8_149s : codeB Try.prog E ⟨f, 279, b, ro⟩ n8_149 st = plainS (runOps Try.prog E b q8_149 (ops [true, true, true, true, true, true, true, true, true, true, true, true, true, true, false] Try.f8) st) := GE.region_step (id := 44) (GE.reg_of (by kernel_rfl)) (by kernel_rfl)
theorem n8_150s : codeB Try.prog LL ⟨8, 279, b, ro⟩ n8_150 st = normS b ⟨[6], []⟩ .ret st := GE.ret_step (by kernel_rfl) (by kernel_rfl)
theorem n8_148s : codeB Try.prog E cx n8_148 st = thenS (codeB Try.prog E cx n8_149 st) (codeB Try.prog E cx n8_150) := GE.seq_step (by kernel_rfl)
theorem n8_127s : codeB Try.prog E cx n8_127 st = thenS (codeB Try.prog E cx n8_128 st) (codeB Try.prog E cx n8_148) := GE.seq_step (by kernel_rfl)
theorem n8_119s : codeB Try.prog E cx n8_119 st = thenS (codeB Try.prog E cx n8_120 st) (codeB Try.prog E cx n8_127) := GE.seq_step (by kernel_rfl)
theorem n8_111s : codeB Try.prog E cx n8_111 st = thenS (codeB Try.prog E cx n8_112 st) (codeB Try.prog E cx n8_119) := GE.seq_step (by kernel_rfl)
theorem n8_32s : codeB Try.prog E cx n8_32 st = thenS (codeB Try.prog E cx n8_33 st) (codeB Try.prog E cx n8_111) := GE.seq_step (by kernel_rfl)
theorem n8_30s : codeB Try.prog E cx n8_30 st = thenS (codeB Try.prog E cx n8_31 st) (codeB Try.prog E cx n8_32) := GE.seq_step (by kernel_rfl)
theorem n8_22s : codeB Try.prog E cx n8_22 st = thenS (codeB Try.prog E cx n8_23 st) (codeB Try.prog E cx n8_30) := GE.seq_step (by kernel_rfl)
theorem n8_14s : codeB Try.prog E cx n8_14 st = thenS (codeB Try.prog E cx n8_15 st) (codeB Try.prog E cx n8_22) := GE.seq_step (by kernel_rfl)
theorem n8_12s : codeB Try.prog E cx n8_12 st = thenS (codeB Try.prog E cx n8_13 st) (codeB Try.prog E cx n8_14) := GE.seq_step (by kernel_rfl)
theorem n8_10s : codeB Try.prog E cx n8_10 st = thenS (codeB Try.prog E cx n8_11 st) (codeB Try.prog E cx n8_12) := GE.seq_step (by kernel_rfl)
theorem n8_8s : codeB Try.prog E cx n8_8 st = thenS (codeB Try.prog E cx n8_9 st) (codeB Try.prog E cx n8_10) := GE.seq_step (by kernel_rfl)
theorem n8_6s : codeB Try.prog E cx n8_6 st = thenS (codeB Try.prog E cx n8_7 st) (codeB Try.prog E cx n8_8) := GE.seq_step (by kernel_rfl)
theorem n8_4s : codeB Try.prog E cx n8_4 st = thenS (codeB Try.prog E cx n8_5 st) (codeB Try.prog E cx n8_6) := GE.seq_step (by kernel_rfl)
theorem n8_2s : codeB Try.prog E cx n8_2 st = thenS (codeB Try.prog E cx n8_3 st) (codeB Try.prog E cx n8_4) := GE.seq_step (by kernel_rfl)
theorem n8_0s : codeB Try.prog E cx n8_0 st = thenS (codeB Try.prog E cx n8_1 st) (codeB Try.prog E cx n8_2) := GE.seq_step (by kernel_rfl)
noncomputable def n22_0 : Code := bodyOf Try.f22
noncomputable def n22_1 : Code := cl n22_0
noncomputable def q22_1 : List Oper := opsOf n22_1
noncomputable def n22_2 : Code := cr n22_0
noncomputable def n22_3 : Code := cl n22_2
noncomputable def n22_4 : Code := cl n22_3
noncomputable def n22_5 : Code := cl n22_4
noncomputable def q22_5 : List Oper := opsOf n22_5
noncomputable def n22_6 : Code := cr n22_4
noncomputable def n22_7 : Code := cl n22_6
noncomputable def n22_8 : Code := cl n22_7
noncomputable def q22_8 : List Oper := opsOf n22_8
noncomputable def n22_9 : Code := cr n22_7
noncomputable def n22_10 : Code := cr n22_6
noncomputable def n22_11 : Code := cl n22_10
noncomputable def q22_11 : List Oper := opsOf n22_11
noncomputable def n22_12 : Code := cr n22_10
noncomputable def n22_13 : Code := cl n22_12
noncomputable def n22_14 : Code := cl n22_13
noncomputable def q22_14 : List Oper := opsOf n22_14
noncomputable def n22_15 : Code := cr n22_13
noncomputable def n22_16 : Code := cr n22_12
noncomputable def n22_17 : Code := cl n22_16
noncomputable def q22_17 : List Oper := opsOf n22_17
noncomputable def n22_18 : Code := cr n22_16
noncomputable def n22_19 : Code := cl n22_18
noncomputable def n22_20 : Code := cl n22_19
noncomputable def q22_20 : List Oper := opsOf n22_20
noncomputable def n22_21 : Code := cr n22_19
noncomputable def n22_22 : Code := cr n22_18
noncomputable def n22_23 : Code := cr n22_2
noncomputable def n22_24 : Code := cl n22_23
noncomputable def q22_24 : List Oper := opsOf n22_24
noncomputable def n22_25 : Code := cr n22_23
noncomputable def n22_26 : Code := cl n22_25
noncomputable def n22_27 : Code := cl n22_26
noncomputable def q22_27 : List Oper := opsOf n22_27
noncomputable def n22_28 : Code := cr n22_26
noncomputable def n22_29 : Code := cl n22_28
noncomputable def n22_30 : Code := cl n22_29
noncomputable def n22_31 : Code := cl n22_30
noncomputable def q22_31 : List Oper := opsOf n22_31
noncomputable def n22_32 : Code := cr n22_30
noncomputable def n22_33 : Code := cl n22_32
noncomputable def n22_34 : Code := cl n22_33
noncomputable def n22_35 : Code := cr n22_33
noncomputable def n22_36 : Code := cr n22_32
noncomputable def n22_37 : Code := cl n22_36
noncomputable def n22_38 : Code := cl n22_37
noncomputable def n22_39 : Code := cl n22_38
noncomputable def q22_39 : List Oper := opsOf n22_39
noncomputable def n22_40 : Code := cr n22_38
noncomputable def n22_41 : Code := cl n22_40
noncomputable def n22_42 : Code := cl n22_41
noncomputable def n22_43 : Code := cl n22_42
noncomputable def q22_43 : List Oper := opsOf n22_43
noncomputable def n22_44 : Code := cr n22_42
noncomputable def n22_45 : Code := cl n22_44
noncomputable def n22_46 : Code := cl n22_45
noncomputable def q22_46 : List Oper := opsOf n22_46
noncomputable def n22_47 : Code := cr n22_45
noncomputable def n22_48 : Code := cr n22_44
noncomputable def n22_49 : Code := cl n22_48
noncomputable def q22_49 : List Oper := opsOf n22_49
noncomputable def n22_50 : Code := cr n22_48
noncomputable def n22_51 : Code := cl n22_50
noncomputable def n22_52 : Code := cl n22_51
noncomputable def q22_52 : List Oper := opsOf n22_52
noncomputable def n22_53 : Code := cr n22_51
noncomputable def n22_54 : Code := cr n22_50
noncomputable def n22_55 : Code := cr n22_40
noncomputable def q22_55 : List Oper := opsOf n22_55
noncomputable def n22_56 : Code := cr n22_36
noncomputable def q22_56 : List Oper := opsOf n22_56
noncomputable def n22_57 : Code := cr n22_25
noncomputable def n22_58 : Code := cl n22_57
noncomputable def q22_58 : List Oper := opsOf n22_58
noncomputable def n22_59 : Code := cr n22_57
theorem body22 : Try.f22.body = some n22_0 := by kernel_rfl
theorem run22 (E : Ev) (args : List Value) (h : List Blk) (hl : args.length ≤ 46) : runB Try.prog E 22 args h = endS Try.prog [.tmp 2] h.length (codeB Try.prog E ⟨22, 46, h.length, none⟩ n22_0 ⟨enumT 0 args, h, []⟩) := GE.run_step Try.func22 body22 (by kernel_rfl) (by decide) (by kernel_rfl) hl
theorem n22_1s : codeB Try.prog E ⟨f, 46, b, ro⟩ n22_1 st = plainS (runOps Try.prog E b q22_1 (ops [false] Try.f22) st) := GE.region_step (id := 0) (GE.reg_of (by kernel_rfl)) (by kernel_rfl)
theorem q22_5g4 : gd q22_5 4 = some 11 := by kernel_rfl
theorem n22_5s : codeB Try.prog E ⟨f, 46, b, ro⟩ n22_5 st = plainS (runOps Try.prog E b q22_5 (ops [true, false, false, false] Try.f22) st) := GE.region_step (id := 1) (GE.reg_of (by kernel_rfl)) (by kernel_rfl)
theorem n22_8s : codeB Try.prog E ⟨f, 46, b, ro⟩ n22_8 st = plainS (runOps Try.prog E b q22_8 (ops [true, false, false, true, false, false] Try.f22) st) := GE.region_step (id := 2) (GE.reg_of (by kernel_rfl)) (by kernel_rfl)
theorem n22_9s : codeB Try.prog LL ⟨22, 46, b, ro⟩ n22_9 st = normS b ⟨[2], []⟩ .ret st := GE.ret_step (by kernel_rfl) (by kernel_rfl)
theorem n22_7s : codeB Try.prog E cx n22_7 st = thenS (codeB Try.prog E cx n22_8 st) (codeB Try.prog E cx n22_9) := GE.seq_step (by kernel_rfl)
theorem n22_11s : codeB Try.prog E ⟨f, 46, b, ro⟩ n22_11 st = plainS (runOps Try.prog E b q22_11 (ops [true, false, false, true, true, false] Try.f22) st) := GE.region_step (id := 3) (GE.reg_of (by kernel_rfl)) (by kernel_rfl)
theorem n22_14s : codeB Try.prog E ⟨f, 46, b, ro⟩ n22_14 st = plainS (runOps Try.prog E b q22_14 (ops [true, false, false, true, true, true, false, false] Try.f22) st) := GE.region_step (id := 4) (GE.reg_of (by kernel_rfl)) (by kernel_rfl)
theorem n22_15s : codeB Try.prog LL ⟨22, 46, b, ro⟩ n22_15 st = normS b ⟨[2], []⟩ .ret st := GE.ret_step (by kernel_rfl) (by kernel_rfl)
theorem n22_13s : codeB Try.prog E cx n22_13 st = thenS (codeB Try.prog E cx n22_14 st) (codeB Try.prog E cx n22_15) := GE.seq_step (by kernel_rfl)
theorem n22_17s : codeB Try.prog E ⟨f, 46, b, ro⟩ n22_17 st = plainS (runOps Try.prog E b q22_17 (ops [true, false, false, true, true, true, true, false] Try.f22) st) := GE.region_step (id := 5) (GE.reg_of (by kernel_rfl)) (by kernel_rfl)
theorem n22_20s : codeB Try.prog E ⟨f, 46, b, ro⟩ n22_20 st = plainS (runOps Try.prog E b q22_20 (ops [true, false, false, true, true, true, true, true, false, false] Try.f22) st) := GE.region_step (id := 6) (GE.reg_of (by kernel_rfl)) (by kernel_rfl)
theorem n22_21s : codeB Try.prog LL ⟨22, 46, b, ro⟩ n22_21 st = normS b ⟨[2], []⟩ .ret st := GE.ret_step (by kernel_rfl) (by kernel_rfl)
theorem n22_19s : codeB Try.prog E cx n22_19 st = thenS (codeB Try.prog E cx n22_20 st) (codeB Try.prog E cx n22_21) := GE.seq_step (by kernel_rfl)
theorem n22_22s : codeB Try.prog E cx n22_22 st = some (.normal, st) := GE.skip_step (by kernel_rfl)
theorem n22_18s : codeB Try.prog E cx n22_18 st = condS (codeB Try.prog E cx n22_19) (codeB Try.prog E cx n22_22) (lk st.σ 22) st := GE.cond_step (c := .tmp 22) (by kernel_rfl)
theorem n22_16s : codeB Try.prog E cx n22_16 st = thenS (codeB Try.prog E cx n22_17 st) (codeB Try.prog E cx n22_18) := GE.seq_step (by kernel_rfl)
theorem n22_12s : codeB Try.prog E cx n22_12 st = condS (codeB Try.prog E cx n22_13) (codeB Try.prog E cx n22_16) (lk st.σ 17) st := GE.cond_step (c := .tmp 17) (by kernel_rfl)
theorem n22_10s : codeB Try.prog E cx n22_10 st = thenS (codeB Try.prog E cx n22_11 st) (codeB Try.prog E cx n22_12) := GE.seq_step (by kernel_rfl)
theorem n22_6s : codeB Try.prog E cx n22_6 st = condS (codeB Try.prog E cx n22_7) (codeB Try.prog E cx n22_10) (lk st.σ 6) st := GE.cond_step (c := .tmp 6) (by kernel_rfl)
theorem n22_4s : codeB Try.prog E cx n22_4 st = thenS (codeB Try.prog E cx n22_5 st) (codeB Try.prog E cx n22_6) := GE.seq_step (by kernel_rfl)
theorem n22_3s : codeB Try.prog E cx n22_3 st = blockS 0 (codeB Try.prog E cx n22_4 st) st := GE.block_step (by kernel_rfl)
theorem n22_24s : codeB Try.prog E ⟨f, 46, b, ro⟩ n22_24 st = plainS (runOps Try.prog E b q22_24 (ops [true, true, false] Try.f22) st) := GE.region_step (id := 7) (GE.reg_of (by kernel_rfl)) (by kernel_rfl)
theorem n22_27s : codeB Try.prog E ⟨f, 46, b, ro⟩ n22_27 st = plainS (runOps Try.prog E b q22_27 (ops [true, true, true, false, false] Try.f22) st) := GE.region_step (id := 8) (GE.reg_of (by kernel_rfl)) (by kernel_rfl)
theorem n22_31s : codeB Try.prog E ⟨f, 46, b, ro⟩ n22_31 st = plainS (runOps Try.prog E b q22_31 (ops [true, true, true, false, true, false, false, false] Try.f22) st) := GE.region_step (id := 9) (GE.reg_of (by kernel_rfl)) (by kernel_rfl)
theorem n22_34s : codeB Try.prog E cx n22_34 st = some (.normal, st) := GE.skip_step (by kernel_rfl)
theorem n22_35s : codeB Try.prog LL ⟨22, 46, b, ro⟩ n22_35 st = normS b ⟨[], []⟩ (.exit 1) st := GE.exit_step (by kernel_rfl) (by kernel_rfl)
theorem n22_33s : codeB Try.prog E cx n22_33 st = condS (codeB Try.prog E cx n22_34) (codeB Try.prog E cx n22_35) (lk st.σ 31) st := GE.cond_step (c := .tmp 31) (by kernel_rfl)
theorem n22_39s : codeB Try.prog E ⟨f, 46, b, ro⟩ n22_39 st = plainS (runOps Try.prog E b q22_39 (ops [true, true, true, false, true, false, false, true, true, false, false, false] Try.f22) st) := GE.region_step (id := 10) (GE.reg_of (by kernel_rfl)) (by kernel_rfl)
theorem n22_43s : codeB Try.prog E ⟨f, 46, b, ro⟩ n22_43 st = plainS (runOps Try.prog E b q22_43 (ops [true, true, true, false, true, false, false, true, true, false, false, true, false, false, false] Try.f22) st) := GE.region_step (id := 11) (GE.reg_of (by kernel_rfl)) (by kernel_rfl)
theorem n22_46s : codeB Try.prog E ⟨f, 46, b, ro⟩ n22_46 st = plainS (runOps Try.prog E b q22_46 (ops [true, true, true, false, true, false, false, true, true, false, false, true, false, false, true, false, false] Try.f22) st) := GE.region_step (id := 12) (GE.reg_of (by kernel_rfl)) (by kernel_rfl)
theorem n22_47s : codeB Try.prog LL ⟨22, 46, b, ro⟩ n22_47 st = normS b ⟨[2], []⟩ .ret st := GE.ret_step (by kernel_rfl) (by kernel_rfl)
theorem n22_45s : codeB Try.prog E cx n22_45 st = thenS (codeB Try.prog E cx n22_46 st) (codeB Try.prog E cx n22_47) := GE.seq_step (by kernel_rfl)
theorem n22_49s : codeB Try.prog E ⟨f, 46, b, ro⟩ n22_49 st = plainS (runOps Try.prog E b q22_49 (ops [true, true, true, false, true, false, false, true, true, false, false, true, false, false, true, true, false] Try.f22) st) := GE.region_step (id := 13) (GE.reg_of (by kernel_rfl)) (by kernel_rfl)
theorem n22_52s : codeB Try.prog E ⟨f, 46, b, ro⟩ n22_52 st = plainS (runOps Try.prog E b q22_52 (ops [true, true, true, false, true, false, false, true, true, false, false, true, false, false, true, true, true, false, false] Try.f22) st) := GE.region_step (id := 14) (GE.reg_of (by kernel_rfl)) (by kernel_rfl)
theorem n22_53s : codeB Try.prog LL ⟨22, 46, b, ro⟩ n22_53 st = normS b ⟨[2], []⟩ .ret st := GE.ret_step (by kernel_rfl) (by kernel_rfl)
theorem n22_51s : codeB Try.prog E cx n22_51 st = thenS (codeB Try.prog E cx n22_52 st) (codeB Try.prog E cx n22_53) := GE.seq_step (by kernel_rfl)
theorem n22_54s : codeB Try.prog E cx n22_54 st = some (.normal, st) := GE.skip_step (by kernel_rfl)
theorem n22_50s : codeB Try.prog E cx n22_50 st = condS (codeB Try.prog E cx n22_51) (codeB Try.prog E cx n22_54) (lk st.σ 38) st := GE.cond_step (c := .tmp 38) (by kernel_rfl)
theorem n22_48s : codeB Try.prog E cx n22_48 st = thenS (codeB Try.prog E cx n22_49 st) (codeB Try.prog E cx n22_50) := GE.seq_step (by kernel_rfl)
theorem n22_44s : codeB Try.prog E cx n22_44 st = condS (codeB Try.prog E cx n22_45) (codeB Try.prog E cx n22_48) (lk st.σ 34) st := GE.cond_step (c := .tmp 34) (by kernel_rfl)
theorem n22_42s : codeB Try.prog E cx n22_42 st = thenS (codeB Try.prog E cx n22_43 st) (codeB Try.prog E cx n22_44) := GE.seq_step (by kernel_rfl)
theorem n22_41s : codeB Try.prog E cx n22_41 st = blockS 3 (codeB Try.prog E cx n22_42 st) st := GE.block_step (by kernel_rfl)
theorem n22_55s : codeB Try.prog E ⟨f, 46, b, ro⟩ n22_55 st = plainS (runOps Try.prog E b q22_55 (ops [true, true, true, false, true, false, false, true, true, false, false, true, true] Try.f22) st) := GE.region_step (id := 15) (GE.reg_of (by kernel_rfl)) (by kernel_rfl)
theorem n22_40s : codeB Try.prog E cx n22_40 st = thenS (codeB Try.prog E cx n22_41 st) (codeB Try.prog E cx n22_55) := GE.seq_step (by kernel_rfl)
theorem n22_38s : codeB Try.prog E cx n22_38 st = thenS (codeB Try.prog E cx n22_39 st) (codeB Try.prog E cx n22_40) := GE.seq_step (by kernel_rfl)
theorem n22_37s : codeB Try.prog E cx n22_37 st = blockS 2 (codeB Try.prog E cx n22_38 st) st := GE.block_step (by kernel_rfl)
theorem n22_56s : codeB Try.prog E ⟨f, 46, b, ro⟩ n22_56 st = plainS (runOps Try.prog E b q22_56 (ops [true, true, true, false, true, false, false, true, true, true] Try.f22) st) := GE.region_step (id := 16) (GE.reg_of (by kernel_rfl)) (by kernel_rfl)
theorem n22_36s : codeB Try.prog E cx n22_36 st = thenS (codeB Try.prog E cx n22_37 st) (codeB Try.prog E cx n22_56) := GE.seq_step (by kernel_rfl)
theorem n22_32s : codeB Try.prog E cx n22_32 st = thenS (codeB Try.prog E cx n22_33 st) (codeB Try.prog E cx n22_36) := GE.seq_step (by kernel_rfl)
theorem n22_30s : codeB Try.prog E cx n22_30 st = thenS (codeB Try.prog E cx n22_31 st) (codeB Try.prog E cx n22_32) := GE.seq_step (by kernel_rfl)
theorem n22_29k : LL.kp (⟨22, 46, b, ro⟩ : Cx).fn (4 * rid n22_30 + 3) = some ⟨[3, 28, 29, 30], [⟨28, 0, 3, true⟩]⟩ := by kernel_rfl
theorem n22_29s : codeB Try.prog LL ⟨22, 46, b, ro⟩ n22_29 st = headS b ⟨[3, 28, 29, 30], [⟨28, 0, 3, true⟩]⟩ st (lpB Try.prog LL ⟨22, 46, b, ro⟩ n22_29 n22_30) := GE.lpB_step (by kernel_rfl) (n22_29k b ro)
theorem n22_29g : LL.code ⟨22, 46, b, ro⟩ n22_29 st = headS b ⟨[3, 28, 29, 30], [⟨28, 0, 3, true⟩]⟩ st (lpB Try.prog LL ⟨22, 46, b, ro⟩ n22_29 n22_30) := GE.lpB_again (by kernel_rfl) (n22_29k b ro)
theorem n22_28s : codeB Try.prog E cx n22_28 st = blockS 1 (codeB Try.prog E cx n22_29 st) st := GE.block_step (by kernel_rfl)
theorem n22_26s : codeB Try.prog E cx n22_26 st = thenS (codeB Try.prog E cx n22_27 st) (codeB Try.prog E cx n22_28) := GE.seq_step (by kernel_rfl)
theorem n22_58s : codeB Try.prog E ⟨f, 46, b, ro⟩ n22_58 st = plainS (runOps Try.prog E b q22_58 (ops [true, true, true, true, false] Try.f22) st) := GE.region_step (id := 17) (GE.reg_of (by kernel_rfl)) (by kernel_rfl)
theorem n22_59s : codeB Try.prog LL ⟨22, 46, b, ro⟩ n22_59 st = normS b ⟨[2], []⟩ .ret st := GE.ret_step (by kernel_rfl) (by kernel_rfl)
theorem n22_57s : codeB Try.prog E cx n22_57 st = thenS (codeB Try.prog E cx n22_58 st) (codeB Try.prog E cx n22_59) := GE.seq_step (by kernel_rfl)
theorem n22_25s : codeB Try.prog E cx n22_25 st = thenS (codeB Try.prog E cx n22_26 st) (codeB Try.prog E cx n22_57) := GE.seq_step (by kernel_rfl)
theorem n22_23s : codeB Try.prog E cx n22_23 st = thenS (codeB Try.prog E cx n22_24 st) (codeB Try.prog E cx n22_25) := GE.seq_step (by kernel_rfl)
theorem n22_2s : codeB Try.prog E cx n22_2 st = thenS (codeB Try.prog E cx n22_3 st) (codeB Try.prog E cx n22_23) := GE.seq_step (by kernel_rfl)
theorem n22_0s : codeB Try.prog E cx n22_0 st = thenS (codeB Try.prog E cx n22_1 st) (codeB Try.prog E cx n22_2) := GE.seq_step (by kernel_rfl)
noncomputable def n29_0 : Code := bodyOf Try.f29
noncomputable def n29_1 : Code := cl n29_0
noncomputable def q29_1 : List Oper := opsOf n29_1
noncomputable def n29_2 : Code := cr n29_0
noncomputable def n29_3 : Code := cl n29_2
noncomputable def q29_3 : List Oper := opsOf n29_3
noncomputable def n29_4 : Code := cr n29_2
noncomputable def n29_5 : Code := cl n29_4
noncomputable def n29_6 : Code := cl n29_5
noncomputable def n29_7 : Code := cl n29_6
noncomputable def q29_7 : List Oper := opsOf n29_7
noncomputable def n29_8 : Code := cr n29_6
noncomputable def n29_9 : Code := cl n29_8
noncomputable def n29_10 : Code := cl n29_9
noncomputable def q29_10 : List Oper := opsOf n29_10
noncomputable def n29_11 : Code := cr n29_9
noncomputable def n29_12 : Code := cr n29_8
noncomputable def n29_13 : Code := cl n29_12
noncomputable def q29_13 : List Oper := opsOf n29_13
noncomputable def n29_14 : Code := cr n29_12
noncomputable def n29_15 : Code := cl n29_14
noncomputable def n29_16 : Code := cl n29_15
noncomputable def q29_16 : List Oper := opsOf n29_16
noncomputable def n29_17 : Code := cr n29_15
noncomputable def n29_18 : Code := cr n29_14
noncomputable def n29_19 : Code := cr n29_4
noncomputable def n29_20 : Code := cl n29_19
noncomputable def q29_20 : List Oper := opsOf n29_20
noncomputable def n29_21 : Code := cr n29_19
noncomputable def n29_22 : Code := cl n29_21
noncomputable def n29_23 : Code := cl n29_22
noncomputable def q29_23 : List Oper := opsOf n29_23
noncomputable def n29_24 : Code := cr n29_22
noncomputable def n29_25 : Code := cl n29_24
noncomputable def n29_26 : Code := cl n29_25
noncomputable def q29_26 : List Oper := opsOf n29_26
noncomputable def n29_27 : Code := cr n29_25
noncomputable def n29_28 : Code := cr n29_24
noncomputable def n29_29 : Code := cr n29_21
noncomputable def n29_30 : Code := cl n29_29
noncomputable def q29_30 : List Oper := opsOf n29_30
noncomputable def n29_31 : Code := cr n29_29
theorem body29 : Try.f29.body = some n29_0 := by kernel_rfl
theorem run29 (E : Ev) (args : List Value) (h : List Blk) (hl : args.length ≤ 36) : runB Try.prog E 29 args h = endS Try.prog [.cell 6 57, .tmp 7] h.length (codeB Try.prog E ⟨29, 36, h.length, none⟩ n29_0 ⟨enumT 0 args, h, []⟩) := GE.run_step Try.func29 body29 (by kernel_rfl) (by decide) (by kernel_rfl) hl
theorem n29_1s : codeB Try.prog E ⟨f, 36, b, ro⟩ n29_1 st = plainS (runOps Try.prog E b q29_1 (ops [false] Try.f29) st) := GE.region_step (id := 0) (GE.reg_of (by kernel_rfl)) (by kernel_rfl)
theorem n29_3s : codeB Try.prog E ⟨f, 36, b, ro⟩ n29_3 st = plainS (runOps Try.prog E b q29_3 (ops [true, false] Try.f29) st) := GE.region_step (id := 1) (GE.reg_of (by kernel_rfl)) (by kernel_rfl)
theorem n29_7s : codeB Try.prog E ⟨f, 36, b, ro⟩ n29_7 st = plainS (runOps Try.prog E b q29_7 (ops [true, true, false, false, false] Try.f29) st) := GE.region_step (id := 2) (GE.reg_of (by kernel_rfl)) (by kernel_rfl)
theorem n29_10s : codeB Try.prog E ⟨f, 36, b, ro⟩ n29_10 st = plainS (runOps Try.prog E b q29_10 (ops [true, true, false, false, true, false, false] Try.f29) st) := GE.region_step (id := 3) (GE.reg_of (by kernel_rfl)) (by kernel_rfl)
theorem n29_11s : codeB Try.prog LL ⟨29, 36, b, ro⟩ n29_11 st = normS b ⟨[6, 7], []⟩ .ret st := GE.ret_step (by kernel_rfl) (by kernel_rfl)
theorem n29_9s : codeB Try.prog E cx n29_9 st = thenS (codeB Try.prog E cx n29_10 st) (codeB Try.prog E cx n29_11) := GE.seq_step (by kernel_rfl)
theorem n29_13s : codeB Try.prog E ⟨f, 36, b, ro⟩ n29_13 st = plainS (runOps Try.prog E b q29_13 (ops [true, true, false, false, true, true, false] Try.f29) st) := GE.region_step (id := 4) (GE.reg_of (by kernel_rfl)) (by kernel_rfl)
theorem n29_16s : codeB Try.prog E ⟨f, 36, b, ro⟩ n29_16 st = plainS (runOps Try.prog E b q29_16 (ops [true, true, false, false, true, true, true, false, false] Try.f29) st) := GE.region_step (id := 5) (GE.reg_of (by kernel_rfl)) (by kernel_rfl)
theorem n29_17s : codeB Try.prog LL ⟨29, 36, b, ro⟩ n29_17 st = normS b ⟨[6, 7], []⟩ .ret st := GE.ret_step (by kernel_rfl) (by kernel_rfl)
theorem n29_15s : codeB Try.prog E cx n29_15 st = thenS (codeB Try.prog E cx n29_16 st) (codeB Try.prog E cx n29_17) := GE.seq_step (by kernel_rfl)
theorem n29_18s : codeB Try.prog E cx n29_18 st = some (.normal, st) := GE.skip_step (by kernel_rfl)
theorem n29_14s : codeB Try.prog E cx n29_14 st = condS (codeB Try.prog E cx n29_15) (codeB Try.prog E cx n29_18) (lk st.σ 22) st := GE.cond_step (c := .tmp 22) (by kernel_rfl)
theorem n29_12s : codeB Try.prog E cx n29_12 st = thenS (codeB Try.prog E cx n29_13 st) (codeB Try.prog E cx n29_14) := GE.seq_step (by kernel_rfl)
theorem n29_8s : codeB Try.prog E cx n29_8 st = condS (codeB Try.prog E cx n29_9) (codeB Try.prog E cx n29_12) (lk st.σ 17) st := GE.cond_step (c := .tmp 17) (by kernel_rfl)
theorem n29_6s : codeB Try.prog E cx n29_6 st = thenS (codeB Try.prog E cx n29_7 st) (codeB Try.prog E cx n29_8) := GE.seq_step (by kernel_rfl)
theorem n29_5s : codeB Try.prog E cx n29_5 st = blockS 0 (codeB Try.prog E cx n29_6 st) st := GE.block_step (by kernel_rfl)
theorem n29_20s : codeB Try.prog E ⟨f, 36, b, ro⟩ n29_20 st = plainS (runOps Try.prog E b q29_20 (ops [true, true, true, false] Try.f29) st) := GE.region_step (id := 6) (GE.reg_of (by kernel_rfl)) (by kernel_rfl)
theorem n29_23s : codeB Try.prog E ⟨f, 36, b, ro⟩ n29_23 st = plainS (runOps Try.prog E b q29_23 (ops [true, true, true, true, false, false] Try.f29) st) := GE.region_step (id := 7) (GE.reg_of (by kernel_rfl)) (by kernel_rfl)
theorem n29_26s : codeB Try.prog E ⟨f, 36, b, ro⟩ n29_26 st = plainS (runOps Try.prog E b q29_26 (ops [true, true, true, true, false, true, false, false] Try.f29) st) := GE.region_step (id := 8) (GE.reg_of (by kernel_rfl)) (by kernel_rfl)
theorem n29_27s : codeB Try.prog LL ⟨29, 36, b, ro⟩ n29_27 st = normS b ⟨[6, 7], []⟩ .ret st := GE.ret_step (by kernel_rfl) (by kernel_rfl)
theorem n29_25s : codeB Try.prog E cx n29_25 st = thenS (codeB Try.prog E cx n29_26 st) (codeB Try.prog E cx n29_27) := GE.seq_step (by kernel_rfl)
theorem n29_28s : codeB Try.prog E cx n29_28 st = some (.normal, st) := GE.skip_step (by kernel_rfl)
theorem n29_24s : codeB Try.prog E cx n29_24 st = condS (codeB Try.prog E cx n29_25) (codeB Try.prog E cx n29_28) (lk st.σ 32) st := GE.cond_step (c := .tmp 32) (by kernel_rfl)
theorem n29_22s : codeB Try.prog E cx n29_22 st = thenS (codeB Try.prog E cx n29_23 st) (codeB Try.prog E cx n29_24) := GE.seq_step (by kernel_rfl)
theorem n29_30s : codeB Try.prog E ⟨f, 36, b, ro⟩ n29_30 st = plainS (runOps Try.prog E b q29_30 (ops [true, true, true, true, true, false] Try.f29) st) := GE.region_step (id := 9) (GE.reg_of (by kernel_rfl)) (by kernel_rfl)
theorem n29_31s : codeB Try.prog LL ⟨29, 36, b, ro⟩ n29_31 st = normS b ⟨[6, 7], []⟩ .ret st := GE.ret_step (by kernel_rfl) (by kernel_rfl)
theorem n29_29s : codeB Try.prog E cx n29_29 st = thenS (codeB Try.prog E cx n29_30 st) (codeB Try.prog E cx n29_31) := GE.seq_step (by kernel_rfl)
theorem n29_21s : codeB Try.prog E cx n29_21 st = thenS (codeB Try.prog E cx n29_22 st) (codeB Try.prog E cx n29_29) := GE.seq_step (by kernel_rfl)
theorem n29_19s : codeB Try.prog E cx n29_19 st = thenS (codeB Try.prog E cx n29_20 st) (codeB Try.prog E cx n29_21) := GE.seq_step (by kernel_rfl)
theorem n29_4s : codeB Try.prog E cx n29_4 st = thenS (codeB Try.prog E cx n29_5 st) (codeB Try.prog E cx n29_19) := GE.seq_step (by kernel_rfl)
theorem n29_2s : codeB Try.prog E cx n29_2 st = thenS (codeB Try.prog E cx n29_3 st) (codeB Try.prog E cx n29_4) := GE.seq_step (by kernel_rfl)
theorem n29_0s : codeB Try.prog E cx n29_0 st = thenS (codeB Try.prog E cx n29_1 st) (codeB Try.prog E cx n29_2) := GE.seq_step (by kernel_rfl)
noncomputable def n34_0 : Code := bodyOf Try.f34
noncomputable def n34_1 : Code := cl n34_0
noncomputable def q34_1 : List Oper := opsOf n34_1
noncomputable def n34_2 : Code := cr n34_0
noncomputable def n34_3 : Code := cl n34_2
noncomputable def q34_3 : List Oper := opsOf n34_3
noncomputable def n34_4 : Code := cr n34_2
noncomputable def n34_5 : Code := cl n34_4
noncomputable def n34_6 : Code := cl n34_5
noncomputable def q34_6 : List Oper := opsOf n34_6
noncomputable def n34_7 : Code := cr n34_5
noncomputable def n34_8 : Code := cl n34_7
noncomputable def n34_9 : Code := cl n34_8
noncomputable def q34_9 : List Oper := opsOf n34_9
noncomputable def n34_10 : Code := cr n34_8
noncomputable def n34_11 : Code := cr n34_7
noncomputable def n34_12 : Code := cr n34_4
noncomputable def n34_13 : Code := cl n34_12
noncomputable def q34_13 : List Oper := opsOf n34_13
noncomputable def n34_14 : Code := cr n34_12
theorem body34 : Try.f34.body = some n34_0 := by kernel_rfl
theorem run34 (E : Ev) (args : List Value) (h : List Blk) (hl : args.length ≤ 21) : runB Try.prog E 34 args h = endS Try.prog [.tmp 4, .tmp 5] h.length (codeB Try.prog E ⟨34, 21, h.length, none⟩ n34_0 ⟨enumT 0 args, h, []⟩) := GE.run_step Try.func34 body34 (by kernel_rfl) (by decide) (by kernel_rfl) hl
theorem n34_1s : codeB Try.prog E ⟨f, 21, b, ro⟩ n34_1 st = plainS (runOps Try.prog E b q34_1 (ops [false] Try.f34) st) := GE.region_step (id := 0) (GE.reg_of (by kernel_rfl)) (by kernel_rfl)
theorem n34_3s : codeB Try.prog E ⟨f, 21, b, ro⟩ n34_3 st = plainS (runOps Try.prog E b q34_3 (ops [true, false] Try.f34) st) := GE.region_step (id := 1) (GE.reg_of (by kernel_rfl)) (by kernel_rfl)
theorem n34_6s : codeB Try.prog E ⟨f, 21, b, ro⟩ n34_6 st = plainS (runOps Try.prog E b q34_6 (ops [true, true, false, false] Try.f34) st) := GE.region_step (id := 2) (GE.reg_of (by kernel_rfl)) (by kernel_rfl)
theorem n34_9s : codeB Try.prog E ⟨f, 21, b, ro⟩ n34_9 st = plainS (runOps Try.prog E b q34_9 (ops [true, true, false, true, false, false] Try.f34) st) := GE.region_step (id := 3) (GE.reg_of (by kernel_rfl)) (by kernel_rfl)
theorem n34_10s : codeB Try.prog LL ⟨34, 21, b, ro⟩ n34_10 st = normS b ⟨[4, 5], [⟨4, 0, 1, true⟩]⟩ .ret st := GE.ret_step (by kernel_rfl) (by kernel_rfl)
theorem n34_8s : codeB Try.prog E cx n34_8 st = thenS (codeB Try.prog E cx n34_9 st) (codeB Try.prog E cx n34_10) := GE.seq_step (by kernel_rfl)
theorem n34_11s : codeB Try.prog E cx n34_11 st = some (.normal, st) := GE.skip_step (by kernel_rfl)
theorem n34_7s : codeB Try.prog E cx n34_7 st = condS (codeB Try.prog E cx n34_8) (codeB Try.prog E cx n34_11) (lk st.σ 15) st := GE.cond_step (c := .tmp 15) (by kernel_rfl)
theorem n34_5s : codeB Try.prog E cx n34_5 st = thenS (codeB Try.prog E cx n34_6 st) (codeB Try.prog E cx n34_7) := GE.seq_step (by kernel_rfl)
theorem n34_13s : codeB Try.prog E ⟨f, 21, b, ro⟩ n34_13 st = plainS (runOps Try.prog E b q34_13 (ops [true, true, true, false] Try.f34) st) := GE.region_step (id := 4) (GE.reg_of (by kernel_rfl)) (by kernel_rfl)
theorem n34_14s : codeB Try.prog LL ⟨34, 21, b, ro⟩ n34_14 st = normS b ⟨[4, 5], [⟨4, 0, 1, true⟩]⟩ .ret st := GE.ret_step (by kernel_rfl) (by kernel_rfl)
theorem n34_12s : codeB Try.prog E cx n34_12 st = thenS (codeB Try.prog E cx n34_13 st) (codeB Try.prog E cx n34_14) := GE.seq_step (by kernel_rfl)
theorem n34_4s : codeB Try.prog E cx n34_4 st = thenS (codeB Try.prog E cx n34_5 st) (codeB Try.prog E cx n34_12) := GE.seq_step (by kernel_rfl)
theorem n34_2s : codeB Try.prog E cx n34_2 st = thenS (codeB Try.prog E cx n34_3 st) (codeB Try.prog E cx n34_4) := GE.seq_step (by kernel_rfl)
theorem n34_0s : codeB Try.prog E cx n34_0 st = thenS (codeB Try.prog E cx n34_1 st) (codeB Try.prog E cx n34_2) := GE.seq_step (by kernel_rfl)
noncomputable def n38_0 : Code := bodyOf Try.f38
noncomputable def n38_1 : Code := cl n38_0
noncomputable def q38_1 : List Oper := opsOf n38_1
noncomputable def n38_2 : Code := cr n38_0
noncomputable def n38_3 : Code := cl n38_2
noncomputable def q38_3 : List Oper := opsOf n38_3
noncomputable def n38_4 : Code := cr n38_2
noncomputable def n38_5 : Code := cl n38_4
noncomputable def q38_5 : List Oper := opsOf n38_5
noncomputable def n38_6 : Code := cr n38_4
noncomputable def n38_7 : Code := cl n38_6
noncomputable def n38_8 : Code := cl n38_7
noncomputable def q38_8 : List Oper := opsOf n38_8
noncomputable def n38_9 : Code := cr n38_7
noncomputable def n38_10 : Code := cl n38_9
noncomputable def n38_11 : Code := cl n38_10
noncomputable def n38_12 : Code := cl n38_11
noncomputable def n38_13 : Code := cl n38_12
noncomputable def q38_13 : List Oper := opsOf n38_13
noncomputable def n38_14 : Code := cr n38_12
noncomputable def n38_15 : Code := cl n38_14
noncomputable def n38_16 : Code := cr n38_14
noncomputable def n38_17 : Code := cr n38_11
noncomputable def n38_18 : Code := cl n38_17
noncomputable def n38_19 : Code := cl n38_18
noncomputable def n38_20 : Code := cl n38_19
noncomputable def q38_20 : List Oper := opsOf n38_20
noncomputable def n38_21 : Code := cr n38_19
noncomputable def n38_22 : Code := cl n38_21
noncomputable def q38_22 : List Oper := opsOf n38_22
noncomputable def n38_23 : Code := cr n38_21
noncomputable def q38_23 : List Oper := opsOf n38_23
noncomputable def n38_24 : Code := cr n38_17
noncomputable def q38_24 : List Oper := opsOf n38_24
noncomputable def n38_25 : Code := cr n38_6
noncomputable def n38_26 : Code := cl n38_25
noncomputable def n38_27 : Code := cl n38_26
noncomputable def q38_27 : List Oper := opsOf n38_27
noncomputable def n38_28 : Code := cr n38_26
noncomputable def n38_29 : Code := cl n38_28
noncomputable def q38_29 : List Oper := opsOf n38_29
noncomputable def n38_30 : Code := cr n38_28
noncomputable def n38_31 : Code := cr n38_25
noncomputable def n38_32 : Code := cl n38_31
noncomputable def q38_32 : List Oper := opsOf n38_32
noncomputable def n38_33 : Code := cr n38_31
theorem body38 : Try.f38.body = some n38_0 := by kernel_rfl
theorem run38 (E : Ev) (args : List Value) (h : List Blk) (hl : args.length ≤ 79) : runB Try.prog E 38 args h = endS Try.prog [.cell 2 24] h.length (codeB Try.prog E ⟨38, 79, h.length, none⟩ n38_0 ⟨enumT 0 args, h, []⟩) := GE.run_step Try.func38 body38 (by kernel_rfl) (by decide) (by kernel_rfl) hl
theorem n38_1s : codeB Try.prog E ⟨f, 79, b, ro⟩ n38_1 st = plainS (runOps Try.prog E b q38_1 (ops [false] Try.f38) st) := GE.region_step (id := 0) (GE.reg_of (by kernel_rfl)) (by kernel_rfl)
theorem n38_3s : codeB Try.prog E ⟨f, 79, b, ro⟩ n38_3 st = plainS (runOps Try.prog E b q38_3 (ops [true, false] Try.f38) st) := GE.region_step (id := 1) (GE.reg_of (by kernel_rfl)) (by kernel_rfl)
theorem n38_5s : codeB Try.prog E ⟨f, 79, b, ro⟩ n38_5 st = plainS (runOps Try.prog E b q38_5 (ops [true, true, false] Try.f38) st) := GE.region_step (id := 2) (GE.reg_of (by kernel_rfl)) (by kernel_rfl)
theorem n38_8s : codeB Try.prog E ⟨f, 79, b, ro⟩ n38_8 st = plainS (runOps Try.prog E b q38_8 (ops [true, true, true, false, false] Try.f38) st) := GE.region_step (id := 3) (GE.reg_of (by kernel_rfl)) (by kernel_rfl)
theorem q38_13g5 : gd q38_13 5 = some 21 := by kernel_rfl
theorem q38_13g9 : gd q38_13 9 = some 25 := by kernel_rfl
theorem n38_13s : codeB Try.prog E ⟨f, 79, b, ro⟩ n38_13 st = plainS (runOps Try.prog E b q38_13 (ops [true, true, true, false, true, false, false, false, false] Try.f38) st) := GE.region_step (id := 4) (GE.reg_of (by kernel_rfl)) (by kernel_rfl)
theorem n38_15s : codeB Try.prog E cx n38_15 st = some (.normal, st) := GE.skip_step (by kernel_rfl)
theorem n38_16s : codeB Try.prog LL ⟨38, 79, b, ro⟩ n38_16 st = normS b ⟨[2, 3], [⟨2, 2, 3, true⟩, ⟨3, 2, 3, true⟩]⟩ (.exit 0) st := GE.exit_step (by kernel_rfl) (by kernel_rfl)
theorem n38_14s : codeB Try.prog E cx n38_14 st = condS (codeB Try.prog E cx n38_15) (codeB Try.prog E cx n38_16) (lk st.σ 28) st := GE.cond_step (c := .tmp 28) (by kernel_rfl)
theorem n38_12s : codeB Try.prog E cx n38_12 st = thenS (codeB Try.prog E cx n38_13 st) (codeB Try.prog E cx n38_14) := GE.seq_step (by kernel_rfl)
theorem n38_20s : codeB Try.prog E ⟨f, 79, b, ro⟩ n38_20 st = plainS (runOps Try.prog E b q38_20 (ops [true, true, true, false, true, false, false, true, false, false, false] Try.f38) st) := GE.region_step (id := 6) (GE.reg_of (by kernel_rfl)) (by kernel_rfl)
theorem n38_22s : codeB Try.prog E ⟨f, 79, b, ro⟩ n38_22 st = drawS [0, 1, 0, 0, 0, 0, 32, 0, 224, 480, 992, 2016, 4064, 8176, 16380, 32764, 65535, 131071, 262143] (runOpsF Try.prog E b q38_22 (ops [true, true, true, false, true, false, false, true, false, false, true, false] Try.f38) st) := GE.draw_step (id := 7) (GE.reg_of (by kernel_rfl)) (by kernel_rfl) (by kernel_rfl) (by kernel_rfl)
theorem n38_23s : codeB Try.prog E ⟨f, 79, b, ro⟩ n38_23 st = plainS (runOps Try.prog E b q38_23 (ops [true, true, true, false, true, false, false, true, false, false, true, true] Try.f38) st) := GE.region_step (id := 8) (GE.reg_of (by kernel_rfl)) (by kernel_rfl)
theorem n38_21s : codeB Try.prog E cx n38_21 st = thenS (codeB Try.prog E cx n38_22 st) (codeB Try.prog E cx n38_23) := GE.seq_step (by kernel_rfl)
theorem n38_19s : codeB Try.prog E cx n38_19 st = thenS (codeB Try.prog E cx n38_20 st) (codeB Try.prog E cx n38_21) := GE.seq_step (by kernel_rfl)
theorem n38_18s : codeB Try.prog E cx n38_18 st = blockS 1 (codeB Try.prog E cx n38_19 st) st := GE.block_step (by kernel_rfl)
theorem n38_24s : codeB Try.prog E ⟨f, 79, b, ro⟩ n38_24 st = plainS (runOps Try.prog E b q38_24 (ops [true, true, true, false, true, false, false, true, true] Try.f38) st) := GE.region_step (id := 5) (GE.reg_of (by kernel_rfl)) (by kernel_rfl)
theorem n38_17s : codeB Try.prog E cx n38_17 st = thenS (codeB Try.prog E cx n38_18 st) (codeB Try.prog E cx n38_24) := GE.seq_step (by kernel_rfl)
theorem n38_11s : codeB Try.prog E cx n38_11 st = thenS (codeB Try.prog E cx n38_12 st) (codeB Try.prog E cx n38_17) := GE.seq_step (by kernel_rfl)
theorem n38_10k : LL.kp (⟨38, 79, b, ro⟩ : Cx).fn (4 * rid n38_11 + 3) = some ⟨[1, 2, 3, 4, 5], [⟨1, 2, 3, true⟩, ⟨2, 2, 3, true⟩, ⟨3, 2, 3, true⟩]⟩ := by kernel_rfl
theorem n38_10s : codeB Try.prog LL ⟨38, 79, b, ro⟩ n38_10 st = headS b ⟨[1, 2, 3, 4, 5], [⟨1, 2, 3, true⟩, ⟨2, 2, 3, true⟩, ⟨3, 2, 3, true⟩]⟩ st (lpB Try.prog LL ⟨38, 79, b, ro⟩ n38_10 n38_11) := GE.lpB_step (by kernel_rfl) (n38_10k b ro)
theorem n38_10g : LL.code ⟨38, 79, b, ro⟩ n38_10 st = headS b ⟨[1, 2, 3, 4, 5], [⟨1, 2, 3, true⟩, ⟨2, 2, 3, true⟩, ⟨3, 2, 3, true⟩]⟩ st (lpB Try.prog LL ⟨38, 79, b, ro⟩ n38_10 n38_11) := GE.lpB_again (by kernel_rfl) (n38_10k b ro)
theorem n38_9s : codeB Try.prog E cx n38_9 st = blockS 0 (codeB Try.prog E cx n38_10 st) st := GE.block_step (by kernel_rfl)
theorem n38_7s : codeB Try.prog E cx n38_7 st = thenS (codeB Try.prog E cx n38_8 st) (codeB Try.prog E cx n38_9) := GE.seq_step (by kernel_rfl)
theorem n38_27s : codeB Try.prog E ⟨f, 79, b, ro⟩ n38_27 st = plainS (runOps Try.prog E b q38_27 (ops [true, true, true, true, false, false] Try.f38) st) := GE.region_step (id := 9) (GE.reg_of (by kernel_rfl)) (by kernel_rfl)
theorem n38_29s : codeB Try.prog E ⟨f, 79, b, ro⟩ n38_29 st = drawS [0, 1, 0, 4, 15, 31, 63] (runOpsF Try.prog E b q38_29 (ops [true, true, true, true, false, true, false] Try.f38) st) := GE.draw_step (id := 10) (GE.reg_of (by kernel_rfl)) (by kernel_rfl) (by kernel_rfl) (by kernel_rfl)
theorem n38_30s : codeB Try.prog E cx n38_30 st = some (.normal, st) := GE.skip_step (by kernel_rfl)
theorem n38_28s : codeB Try.prog E cx n38_28 st = condS (codeB Try.prog E cx n38_29) (codeB Try.prog E cx n38_30) (lk st.σ 71) st := GE.cond_step (c := .tmp 71) (by kernel_rfl)
theorem n38_26s : codeB Try.prog E cx n38_26 st = thenS (codeB Try.prog E cx n38_27 st) (codeB Try.prog E cx n38_28) := GE.seq_step (by kernel_rfl)
theorem n38_32s : codeB Try.prog E ⟨f, 79, b, ro⟩ n38_32 st = plainS (runOps Try.prog E b q38_32 (ops [true, true, true, true, true, false] Try.f38) st) := GE.region_step (id := 11) (GE.reg_of (by kernel_rfl)) (by kernel_rfl)
theorem n38_33s : codeB Try.prog LL ⟨38, 79, b, ro⟩ n38_33 st = normS b ⟨[2], [⟨2, 2, 3, true⟩]⟩ .ret st := GE.ret_step (by kernel_rfl) (by kernel_rfl)
theorem n38_31s : codeB Try.prog E cx n38_31 st = thenS (codeB Try.prog E cx n38_32 st) (codeB Try.prog E cx n38_33) := GE.seq_step (by kernel_rfl)
theorem n38_25s : codeB Try.prog E cx n38_25 st = thenS (codeB Try.prog E cx n38_26 st) (codeB Try.prog E cx n38_31) := GE.seq_step (by kernel_rfl)
theorem n38_6s : codeB Try.prog E cx n38_6 st = thenS (codeB Try.prog E cx n38_7 st) (codeB Try.prog E cx n38_25) := GE.seq_step (by kernel_rfl)
theorem n38_4s : codeB Try.prog E cx n38_4 st = thenS (codeB Try.prog E cx n38_5 st) (codeB Try.prog E cx n38_6) := GE.seq_step (by kernel_rfl)
theorem n38_2s : codeB Try.prog E cx n38_2 st = thenS (codeB Try.prog E cx n38_3 st) (codeB Try.prog E cx n38_4) := GE.seq_step (by kernel_rfl)
theorem n38_0s : codeB Try.prog E cx n38_0 st = thenS (codeB Try.prog E cx n38_1 st) (codeB Try.prog E cx n38_2) := GE.seq_step (by kernel_rfl)
noncomputable def n39_0 : Code := bodyOf Try.f39
noncomputable def n39_1 : Code := cl n39_0
noncomputable def q39_1 : List Oper := opsOf n39_1
noncomputable def n39_2 : Code := cr n39_0
noncomputable def n39_3 : Code := cl n39_2
noncomputable def q39_3 : List Oper := opsOf n39_3
noncomputable def n39_4 : Code := cr n39_2
noncomputable def n39_5 : Code := cl n39_4
noncomputable def n39_6 : Code := cl n39_5
noncomputable def q39_6 : List Oper := opsOf n39_6
noncomputable def n39_7 : Code := cr n39_5
noncomputable def n39_8 : Code := cl n39_7
noncomputable def n39_9 : Code := cl n39_8
noncomputable def n39_10 : Code := cl n39_9
noncomputable def n39_11 : Code := cl n39_10
noncomputable def q39_11 : List Oper := opsOf n39_11
noncomputable def n39_12 : Code := cr n39_10
noncomputable def n39_13 : Code := cl n39_12
noncomputable def n39_14 : Code := cr n39_12
noncomputable def n39_15 : Code := cr n39_9
noncomputable def n39_16 : Code := cl n39_15
noncomputable def n39_17 : Code := cl n39_16
noncomputable def n39_18 : Code := cl n39_17
noncomputable def q39_18 : List Oper := opsOf n39_18
noncomputable def n39_19 : Code := cr n39_17
noncomputable def n39_20 : Code := cl n39_19
noncomputable def q39_20 : List Oper := opsOf n39_20
noncomputable def n39_21 : Code := cr n39_19
noncomputable def n39_22 : Code := cr n39_15
noncomputable def q39_22 : List Oper := opsOf n39_22
noncomputable def n39_23 : Code := cr n39_4
noncomputable def n39_24 : Code := cl n39_23
noncomputable def q39_24 : List Oper := opsOf n39_24
noncomputable def n39_25 : Code := cr n39_23
theorem body39 : Try.f39.body = some n39_0 := by kernel_rfl
theorem run39 (E : Ev) (args : List Value) (h : List Blk) (hl : args.length ≤ 19) : runB Try.prog E 39 args h = endS Try.prog [.tmp 2] h.length (codeB Try.prog E ⟨39, 19, h.length, none⟩ n39_0 ⟨enumT 0 args, h, []⟩) := GE.run_step Try.func39 body39 (by kernel_rfl) (by decide) (by kernel_rfl) hl
theorem n39_1s : codeB Try.prog E ⟨f, 19, b, ro⟩ n39_1 st = plainS (runOps Try.prog E b q39_1 (ops [false] Try.f39) st) := GE.region_step (id := 0) (GE.reg_of (by kernel_rfl)) (by kernel_rfl)
theorem n39_3s : codeB Try.prog E ⟨f, 19, b, ro⟩ n39_3 st = plainS (runOps Try.prog E b q39_3 (ops [true, false] Try.f39) st) := GE.region_step (id := 1) (GE.reg_of (by kernel_rfl)) (by kernel_rfl)
theorem n39_6s : codeB Try.prog E ⟨f, 19, b, ro⟩ n39_6 st = plainS (runOps Try.prog E b q39_6 (ops [true, true, false, false] Try.f39) st) := GE.region_step (id := 2) (GE.reg_of (by kernel_rfl)) (by kernel_rfl)
theorem n39_11s : codeB Try.prog E ⟨f, 19, b, ro⟩ n39_11 st = plainS (runOps Try.prog E b q39_11 (ops [true, true, false, true, false, false, false, false] Try.f39) st) := GE.region_step (id := 3) (GE.reg_of (by kernel_rfl)) (by kernel_rfl)
theorem n39_13s : codeB Try.prog E cx n39_13 st = some (.normal, st) := GE.skip_step (by kernel_rfl)
theorem n39_14s : codeB Try.prog LL ⟨39, 19, b, ro⟩ n39_14 st = normS b ⟨[3], [⟨3, 0, 1, true⟩]⟩ (.exit 0) st := GE.exit_step (by kernel_rfl) (by kernel_rfl)
theorem n39_12s : codeB Try.prog E cx n39_12 st = condS (codeB Try.prog E cx n39_13) (codeB Try.prog E cx n39_14) (lk st.σ 6) st := GE.cond_step (c := .tmp 6) (by kernel_rfl)
theorem n39_10s : codeB Try.prog E cx n39_10 st = thenS (codeB Try.prog E cx n39_11 st) (codeB Try.prog E cx n39_12) := GE.seq_step (by kernel_rfl)
theorem n39_18s : codeB Try.prog E ⟨f, 19, b, ro⟩ n39_18 st = plainS (runOps Try.prog E b q39_18 (ops [true, true, false, true, false, false, true, false, false, false] Try.f39) st) := GE.region_step (id := 5) (GE.reg_of (by kernel_rfl)) (by kernel_rfl)
theorem n39_20s : codeB Try.prog E ⟨f, 19, b, ro⟩ n39_20 st = plainS (runOps Try.prog E b q39_20 (ops [true, true, false, true, false, false, true, false, false, true, false] Try.f39) st) := GE.region_step (id := 6) (GE.reg_of (by kernel_rfl)) (by kernel_rfl)
theorem n39_21s : codeB Try.prog E cx n39_21 st = some (.normal, st) := GE.skip_step (by kernel_rfl)
theorem n39_19s : codeB Try.prog E cx n39_19 st = condS (codeB Try.prog E cx n39_20) (codeB Try.prog E cx n39_21) (lk st.σ 13) st := GE.cond_step (c := .tmp 13) (by kernel_rfl)
theorem n39_17s : codeB Try.prog E cx n39_17 st = thenS (codeB Try.prog E cx n39_18 st) (codeB Try.prog E cx n39_19) := GE.seq_step (by kernel_rfl)
theorem n39_16s : codeB Try.prog E cx n39_16 st = blockS 1 (codeB Try.prog E cx n39_17 st) st := GE.block_step (by kernel_rfl)
theorem n39_22s : codeB Try.prog E ⟨f, 19, b, ro⟩ n39_22 st = plainS (runOps Try.prog E b q39_22 (ops [true, true, false, true, false, false, true, true] Try.f39) st) := GE.region_step (id := 4) (GE.reg_of (by kernel_rfl)) (by kernel_rfl)
theorem n39_15s : codeB Try.prog E cx n39_15 st = thenS (codeB Try.prog E cx n39_16 st) (codeB Try.prog E cx n39_22) := GE.seq_step (by kernel_rfl)
theorem n39_9s : codeB Try.prog E cx n39_9 st = thenS (codeB Try.prog E cx n39_10 st) (codeB Try.prog E cx n39_15) := GE.seq_step (by kernel_rfl)
theorem n39_8k : LL.kp (⟨39, 19, b, ro⟩ : Cx).fn (4 * rid n39_9 + 3) = some ⟨[0, 3, 4], [⟨3, 0, 1, true⟩]⟩ := by kernel_rfl
theorem n39_8s : codeB Try.prog LL ⟨39, 19, b, ro⟩ n39_8 st = headS b ⟨[0, 3, 4], [⟨3, 0, 1, true⟩]⟩ st (lpB Try.prog LL ⟨39, 19, b, ro⟩ n39_8 n39_9) := GE.lpB_step (by kernel_rfl) (n39_8k b ro)
theorem n39_8g : LL.code ⟨39, 19, b, ro⟩ n39_8 st = headS b ⟨[0, 3, 4], [⟨3, 0, 1, true⟩]⟩ st (lpB Try.prog LL ⟨39, 19, b, ro⟩ n39_8 n39_9) := GE.lpB_again (by kernel_rfl) (n39_8k b ro)
theorem n39_7s : codeB Try.prog E cx n39_7 st = blockS 0 (codeB Try.prog E cx n39_8 st) st := GE.block_step (by kernel_rfl)
theorem n39_5s : codeB Try.prog E cx n39_5 st = thenS (codeB Try.prog E cx n39_6 st) (codeB Try.prog E cx n39_7) := GE.seq_step (by kernel_rfl)
theorem n39_24s : codeB Try.prog E ⟨f, 19, b, ro⟩ n39_24 st = plainS (runOps Try.prog E b q39_24 (ops [true, true, true, false] Try.f39) st) := GE.region_step (id := 7) (GE.reg_of (by kernel_rfl)) (by kernel_rfl)
theorem n39_25s : codeB Try.prog LL ⟨39, 19, b, ro⟩ n39_25 st = normS b ⟨[2], [⟨2, 0, 1, true⟩]⟩ .ret st := GE.ret_step (by kernel_rfl) (by kernel_rfl)
theorem n39_23s : codeB Try.prog E cx n39_23 st = thenS (codeB Try.prog E cx n39_24 st) (codeB Try.prog E cx n39_25) := GE.seq_step (by kernel_rfl)
theorem n39_4s : codeB Try.prog E cx n39_4 st = thenS (codeB Try.prog E cx n39_5 st) (codeB Try.prog E cx n39_23) := GE.seq_step (by kernel_rfl)
theorem n39_2s : codeB Try.prog E cx n39_2 st = thenS (codeB Try.prog E cx n39_3 st) (codeB Try.prog E cx n39_4) := GE.seq_step (by kernel_rfl)
theorem n39_0s : codeB Try.prog E cx n39_0 st = thenS (codeB Try.prog E cx n39_1 st) (codeB Try.prog E cx n39_2) := GE.seq_step (by kernel_rfl)
noncomputable def n40_0 : Code := bodyOf Try.f40
noncomputable def n40_1 : Code := cl n40_0
noncomputable def q40_1 : List Oper := opsOf n40_1
noncomputable def n40_2 : Code := cr n40_0
noncomputable def n40_3 : Code := cl n40_2
noncomputable def n40_4 : Code := cl n40_3
noncomputable def q40_4 : List Oper := opsOf n40_4
noncomputable def n40_5 : Code := cr n40_3
noncomputable def n40_6 : Code := cl n40_5
noncomputable def n40_7 : Code := cl n40_6
noncomputable def n40_8 : Code := cl n40_7
noncomputable def q40_8 : List Oper := opsOf n40_8
noncomputable def n40_9 : Code := cr n40_7
noncomputable def n40_10 : Code := cl n40_9
noncomputable def n40_11 : Code := cl n40_10
noncomputable def n40_12 : Code := cr n40_10
noncomputable def n40_13 : Code := cr n40_9
noncomputable def n40_14 : Code := cl n40_13
noncomputable def n40_15 : Code := cl n40_14
noncomputable def n40_16 : Code := cl n40_15
noncomputable def q40_16 : List Oper := opsOf n40_16
noncomputable def n40_17 : Code := cr n40_15
noncomputable def n40_18 : Code := cl n40_17
noncomputable def q40_18 : List Oper := opsOf n40_18
noncomputable def n40_19 : Code := cr n40_17
noncomputable def n40_20 : Code := cl n40_19
noncomputable def n40_21 : Code := cl n40_20
noncomputable def q40_21 : List Oper := opsOf n40_21
noncomputable def n40_22 : Code := cr n40_20
noncomputable def n40_23 : Code := cr n40_19
noncomputable def n40_24 : Code := cr n40_13
noncomputable def q40_24 : List Oper := opsOf n40_24
noncomputable def n40_25 : Code := cr n40_2
noncomputable def n40_26 : Code := cl n40_25
noncomputable def q40_26 : List Oper := opsOf n40_26
noncomputable def n40_27 : Code := cr n40_25
theorem body40 : Try.f40.body = some n40_0 := by kernel_rfl
theorem run40 (E : Ev) (args : List Value) (h : List Blk) (hl : args.length ≤ 11) : runB Try.prog E 40 args h = endS Try.prog [.tmp 2] h.length (codeB Try.prog E ⟨40, 11, h.length, none⟩ n40_0 ⟨enumT 0 args, h, []⟩) := GE.run_step Try.func40 body40 (by kernel_rfl) (by decide) (by kernel_rfl) hl
theorem n40_1s : codeB Try.prog E ⟨f, 11, b, ro⟩ n40_1 st = plainS (runOps Try.prog E b q40_1 (ops [false] Try.f40) st) := GE.region_step (id := 0) (GE.reg_of (by kernel_rfl)) (by kernel_rfl)
theorem n40_4s : codeB Try.prog E ⟨f, 11, b, ro⟩ n40_4 st = plainS (runOps Try.prog E b q40_4 (ops [true, false, false] Try.f40) st) := GE.region_step (id := 1) (GE.reg_of (by kernel_rfl)) (by kernel_rfl)
theorem n40_8s : codeB Try.prog E ⟨f, 11, b, ro⟩ n40_8 st = plainS (runOps Try.prog E b q40_8 (ops [true, false, true, false, false, false] Try.f40) st) := GE.region_step (id := 2) (GE.reg_of (by kernel_rfl)) (by kernel_rfl)
theorem n40_11s : codeB Try.prog E cx n40_11 st = some (.normal, st) := GE.skip_step (by kernel_rfl)
theorem n40_12s : codeB Try.prog LL ⟨40, 11, b, ro⟩ n40_12 st = normS b ⟨[], []⟩ (.exit 0) st := GE.exit_step (by kernel_rfl) (by kernel_rfl)
theorem n40_10s : codeB Try.prog E cx n40_10 st = condS (codeB Try.prog E cx n40_11) (codeB Try.prog E cx n40_12) (lk st.σ 7) st := GE.cond_step (c := .tmp 7) (by kernel_rfl)
theorem n40_16s : codeB Try.prog E ⟨f, 11, b, ro⟩ n40_16 st = plainS (runOps Try.prog E b q40_16 (ops [true, false, true, false, false, true, true, false, false, false] Try.f40) st) := GE.region_step (id := 3) (GE.reg_of (by kernel_rfl)) (by kernel_rfl)
theorem n40_18s : codeB Try.prog E ⟨f, 11, b, ro⟩ n40_18 st = plainS (runOps Try.prog E b q40_18 (ops [true, false, true, false, false, true, true, false, false, true, false] Try.f40) st) := GE.region_step (id := 4) (GE.reg_of (by kernel_rfl)) (by kernel_rfl)
theorem n40_21s : codeB Try.prog E ⟨f, 11, b, ro⟩ n40_21 st = plainS (runOps Try.prog E b q40_21 (ops [true, false, true, false, false, true, true, false, false, true, true, false, false] Try.f40) st) := GE.region_step (id := 5) (GE.reg_of (by kernel_rfl)) (by kernel_rfl)
theorem n40_22s : codeB Try.prog LL ⟨40, 11, b, ro⟩ n40_22 st = normS b ⟨[2], []⟩ .ret st := GE.ret_step (by kernel_rfl) (by kernel_rfl)
theorem n40_20s : codeB Try.prog E cx n40_20 st = thenS (codeB Try.prog E cx n40_21 st) (codeB Try.prog E cx n40_22) := GE.seq_step (by kernel_rfl)
theorem n40_23s : codeB Try.prog E cx n40_23 st = some (.normal, st) := GE.skip_step (by kernel_rfl)
theorem n40_19s : codeB Try.prog E cx n40_19 st = condS (codeB Try.prog E cx n40_20) (codeB Try.prog E cx n40_23) (lk st.σ 9) st := GE.cond_step (c := .tmp 9) (by kernel_rfl)
theorem n40_17s : codeB Try.prog E cx n40_17 st = thenS (codeB Try.prog E cx n40_18 st) (codeB Try.prog E cx n40_19) := GE.seq_step (by kernel_rfl)
theorem n40_15s : codeB Try.prog E cx n40_15 st = thenS (codeB Try.prog E cx n40_16 st) (codeB Try.prog E cx n40_17) := GE.seq_step (by kernel_rfl)
theorem n40_14s : codeB Try.prog E cx n40_14 st = blockS 1 (codeB Try.prog E cx n40_15 st) st := GE.block_step (by kernel_rfl)
theorem n40_24s : codeB Try.prog E ⟨f, 11, b, ro⟩ n40_24 st = plainS (runOps Try.prog E b q40_24 (ops [true, false, true, false, false, true, true, true] Try.f40) st) := GE.region_step (id := 6) (GE.reg_of (by kernel_rfl)) (by kernel_rfl)
theorem n40_13s : codeB Try.prog E cx n40_13 st = thenS (codeB Try.prog E cx n40_14 st) (codeB Try.prog E cx n40_24) := GE.seq_step (by kernel_rfl)
theorem n40_9s : codeB Try.prog E cx n40_9 st = thenS (codeB Try.prog E cx n40_10 st) (codeB Try.prog E cx n40_13) := GE.seq_step (by kernel_rfl)
theorem n40_7s : codeB Try.prog E cx n40_7 st = thenS (codeB Try.prog E cx n40_8 st) (codeB Try.prog E cx n40_9) := GE.seq_step (by kernel_rfl)
theorem n40_6k : LL.kp (⟨40, 11, b, ro⟩ : Cx).fn (4 * rid n40_7 + 3) = some ⟨[5, 6], []⟩ := by kernel_rfl
theorem n40_6s : codeB Try.prog LL ⟨40, 11, b, ro⟩ n40_6 st = headS b ⟨[5, 6], []⟩ st (lpB Try.prog LL ⟨40, 11, b, ro⟩ n40_6 n40_7) := GE.lpB_step (by kernel_rfl) (n40_6k b ro)
theorem n40_6g : LL.code ⟨40, 11, b, ro⟩ n40_6 st = headS b ⟨[5, 6], []⟩ st (lpB Try.prog LL ⟨40, 11, b, ro⟩ n40_6 n40_7) := GE.lpB_again (by kernel_rfl) (n40_6k b ro)
theorem n40_5s : codeB Try.prog E cx n40_5 st = blockS 0 (codeB Try.prog E cx n40_6 st) st := GE.block_step (by kernel_rfl)
theorem n40_3s : codeB Try.prog E cx n40_3 st = thenS (codeB Try.prog E cx n40_4 st) (codeB Try.prog E cx n40_5) := GE.seq_step (by kernel_rfl)
theorem n40_26s : codeB Try.prog E ⟨f, 11, b, ro⟩ n40_26 st = plainS (runOps Try.prog E b q40_26 (ops [true, true, false] Try.f40) st) := GE.region_step (id := 7) (GE.reg_of (by kernel_rfl)) (by kernel_rfl)
theorem n40_27s : codeB Try.prog LL ⟨40, 11, b, ro⟩ n40_27 st = normS b ⟨[2], []⟩ .ret st := GE.ret_step (by kernel_rfl) (by kernel_rfl)
theorem n40_25s : codeB Try.prog E cx n40_25 st = thenS (codeB Try.prog E cx n40_26 st) (codeB Try.prog E cx n40_27) := GE.seq_step (by kernel_rfl)
theorem n40_2s : codeB Try.prog E cx n40_2 st = thenS (codeB Try.prog E cx n40_3 st) (codeB Try.prog E cx n40_25) := GE.seq_step (by kernel_rfl)
theorem n40_0s : codeB Try.prog E cx n40_0 st = thenS (codeB Try.prog E cx n40_1 st) (codeB Try.prog E cx n40_2) := GE.seq_step (by kernel_rfl)
noncomputable def n41_0 : Code := bodyOf Try.f41
noncomputable def n41_1 : Code := cl n41_0
noncomputable def q41_1 : List Oper := opsOf n41_1
noncomputable def n41_2 : Code := cr n41_0
noncomputable def n41_3 : Code := cl n41_2
noncomputable def q41_3 : List Oper := opsOf n41_3
noncomputable def n41_4 : Code := cr n41_2
noncomputable def n41_5 : Code := cl n41_4
noncomputable def n41_6 : Code := cl n41_5
noncomputable def q41_6 : List Oper := opsOf n41_6
noncomputable def n41_7 : Code := cr n41_5
noncomputable def n41_8 : Code := cl n41_7
noncomputable def n41_9 : Code := cl n41_8
noncomputable def n41_10 : Code := cl n41_9
noncomputable def q41_10 : List Oper := opsOf n41_10
noncomputable def n41_11 : Code := cr n41_9
noncomputable def n41_12 : Code := cl n41_11
noncomputable def n41_13 : Code := cl n41_12
noncomputable def n41_14 : Code := cr n41_12
noncomputable def n41_15 : Code := cr n41_11
noncomputable def n41_16 : Code := cl n41_15
noncomputable def n41_17 : Code := cl n41_16
noncomputable def n41_18 : Code := cl n41_17
noncomputable def q41_18 : List Oper := opsOf n41_18
noncomputable def n41_19 : Code := cr n41_17
noncomputable def n41_20 : Code := cl n41_19
noncomputable def q41_20 : List Oper := opsOf n41_20
noncomputable def n41_21 : Code := cr n41_19
noncomputable def n41_22 : Code := cl n41_21
noncomputable def n41_23 : Code := cl n41_22
noncomputable def n41_24 : Code := cl n41_23
noncomputable def q41_24 : List Oper := opsOf n41_24
noncomputable def n41_25 : Code := cr n41_23
noncomputable def n41_26 : Code := cl n41_25
noncomputable def n41_27 : Code := cl n41_26
noncomputable def n41_28 : Code := cr n41_26
noncomputable def n41_29 : Code := cr n41_25
noncomputable def n41_30 : Code := cl n41_29
noncomputable def n41_31 : Code := cl n41_30
noncomputable def n41_32 : Code := cl n41_31
noncomputable def q41_32 : List Oper := opsOf n41_32
noncomputable def n41_33 : Code := cr n41_31
noncomputable def n41_34 : Code := cl n41_33
noncomputable def q41_34 : List Oper := opsOf n41_34
noncomputable def n41_35 : Code := cr n41_33
noncomputable def n41_36 : Code := cl n41_35
noncomputable def q41_36 : List Oper := opsOf n41_36
noncomputable def n41_37 : Code := cr n41_35
noncomputable def n41_38 : Code := cl n41_37
noncomputable def n41_39 : Code := cl n41_38
noncomputable def n41_40 : Code := cl n41_39
noncomputable def q41_40 : List Oper := opsOf n41_40
noncomputable def n41_41 : Code := cr n41_39
noncomputable def n41_42 : Code := cl n41_41
noncomputable def n41_43 : Code := cl n41_42
noncomputable def n41_44 : Code := cr n41_42
noncomputable def n41_45 : Code := cr n41_41
noncomputable def n41_46 : Code := cl n41_45
noncomputable def n41_47 : Code := cl n41_46
noncomputable def n41_48 : Code := cl n41_47
noncomputable def q41_48 : List Oper := opsOf n41_48
noncomputable def n41_49 : Code := cr n41_47
noncomputable def n41_50 : Code := cl n41_49
noncomputable def q41_50 : List Oper := opsOf n41_50
noncomputable def n41_51 : Code := cr n41_49
noncomputable def n41_52 : Code := cl n41_51
noncomputable def q41_52 : List Oper := opsOf n41_52
noncomputable def n41_53 : Code := cr n41_51
noncomputable def n41_54 : Code := cr n41_45
noncomputable def q41_54 : List Oper := opsOf n41_54
noncomputable def n41_55 : Code := cr n41_29
noncomputable def q41_55 : List Oper := opsOf n41_55
noncomputable def n41_56 : Code := cr n41_15
noncomputable def q41_56 : List Oper := opsOf n41_56
noncomputable def n41_57 : Code := cr n41_4
noncomputable def n41_58 : Code := cl n41_57
noncomputable def n41_59 : Code := cl n41_58
noncomputable def q41_59 : List Oper := opsOf n41_59
noncomputable def n41_60 : Code := cr n41_58
noncomputable def n41_61 : Code := cl n41_60
noncomputable def n41_62 : Code := cl n41_61
noncomputable def n41_63 : Code := cl n41_62
noncomputable def n41_64 : Code := cl n41_63
noncomputable def q41_64 : List Oper := opsOf n41_64
noncomputable def n41_65 : Code := cr n41_63
noncomputable def n41_66 : Code := cl n41_65
noncomputable def n41_67 : Code := cr n41_65
noncomputable def n41_68 : Code := cr n41_62
noncomputable def n41_69 : Code := cl n41_68
noncomputable def n41_70 : Code := cl n41_69
noncomputable def q41_70 : List Oper := opsOf n41_70
noncomputable def n41_71 : Code := cr n41_68
noncomputable def q41_71 : List Oper := opsOf n41_71
noncomputable def n41_72 : Code := cr n41_57
noncomputable def n41_73 : Code := cl n41_72
noncomputable def n41_74 : Code := cl n41_73
noncomputable def q41_74 : List Oper := opsOf n41_74
noncomputable def n41_75 : Code := cr n41_73
noncomputable def n41_76 : Code := cl n41_75
noncomputable def n41_77 : Code := cl n41_76
noncomputable def n41_78 : Code := cl n41_77
noncomputable def n41_79 : Code := cl n41_78
noncomputable def q41_79 : List Oper := opsOf n41_79
noncomputable def n41_80 : Code := cr n41_78
noncomputable def n41_81 : Code := cl n41_80
noncomputable def n41_82 : Code := cr n41_80
noncomputable def n41_83 : Code := cr n41_77
noncomputable def n41_84 : Code := cl n41_83
noncomputable def n41_85 : Code := cl n41_84
noncomputable def q41_85 : List Oper := opsOf n41_85
noncomputable def n41_86 : Code := cr n41_83
noncomputable def q41_86 : List Oper := opsOf n41_86
noncomputable def n41_87 : Code := cr n41_72
noncomputable def n41_88 : Code := cl n41_87
noncomputable def q41_88 : List Oper := opsOf n41_88
noncomputable def n41_89 : Code := cr n41_87
theorem body41 : Try.f41.body = some n41_0 := by kernel_rfl
theorem run41 (E : Ev) (args : List Value) (h : List Blk) (hl : args.length ≤ 96) : runB Try.prog E 41 args h = endS Try.prog [.cell 4 80] h.length (codeB Try.prog E ⟨41, 96, h.length, none⟩ n41_0 ⟨enumT 0 args, h, []⟩) := GE.run_step Try.func41 body41 (by kernel_rfl) (by decide) (by kernel_rfl) hl
theorem n41_1s : codeB Try.prog E ⟨f, 96, b, ro⟩ n41_1 st = plainS (runOps Try.prog E b q41_1 (ops [false] Try.f41) st) := GE.region_step (id := 0) (GE.reg_of (by kernel_rfl)) (by kernel_rfl)
theorem n41_3s : codeB Try.prog E ⟨f, 96, b, ro⟩ n41_3 st = plainS (runOps Try.prog E b q41_3 (ops [true, false] Try.f41) st) := GE.region_step (id := 1) (GE.reg_of (by kernel_rfl)) (by kernel_rfl)
theorem n41_6s : codeB Try.prog E ⟨f, 96, b, ro⟩ n41_6 st = plainS (runOps Try.prog E b q41_6 (ops [true, true, false, false] Try.f41) st) := GE.region_step (id := 2) (GE.reg_of (by kernel_rfl)) (by kernel_rfl)
theorem n41_10s : codeB Try.prog E ⟨f, 96, b, ro⟩ n41_10 st = plainS (runOps Try.prog E b q41_10 (ops [true, true, false, true, false, false, false] Try.f41) st) := GE.region_step (id := 3) (GE.reg_of (by kernel_rfl)) (by kernel_rfl)
theorem n41_13s : codeB Try.prog E cx n41_13 st = some (.normal, st) := GE.skip_step (by kernel_rfl)
theorem n41_14s : codeB Try.prog LL ⟨41, 96, b, ro⟩ n41_14 st = normS b ⟨[1, 2, 4, 5], [⟨2, 2, 3, true⟩]⟩ (.exit 0) st := GE.exit_step (by kernel_rfl) (by kernel_rfl)
theorem n41_12s : codeB Try.prog E cx n41_12 st = condS (codeB Try.prog E cx n41_13) (codeB Try.prog E cx n41_14) (lk st.σ 13) st := GE.cond_step (c := .tmp 13) (by kernel_rfl)
theorem n41_18s : codeB Try.prog E ⟨f, 96, b, ro⟩ n41_18 st = plainS (runOps Try.prog E b q41_18 (ops [true, true, false, true, false, false, true, true, false, false, false] Try.f41) st) := GE.region_step (id := 4) (GE.reg_of (by kernel_rfl)) (by kernel_rfl)
theorem n41_20s : codeB Try.prog E ⟨f, 96, b, ro⟩ n41_20 st = plainS (runOps Try.prog E b q41_20 (ops [true, true, false, true, false, false, true, true, false, false, true, false] Try.f41) st) := GE.region_step (id := 5) (GE.reg_of (by kernel_rfl)) (by kernel_rfl)
theorem n41_24s : codeB Try.prog E ⟨f, 96, b, ro⟩ n41_24 st = plainS (runOps Try.prog E b q41_24 (ops [true, true, false, true, false, false, true, true, false, false, true, true, false, false, false] Try.f41) st) := GE.region_step (id := 6) (GE.reg_of (by kernel_rfl)) (by kernel_rfl)
theorem n41_27s : codeB Try.prog E cx n41_27 st = some (.normal, st) := GE.skip_step (by kernel_rfl)
theorem n41_28s : codeB Try.prog LL ⟨41, 96, b, ro⟩ n41_28 st = normS b ⟨[1, 2, 4, 5, 12], [⟨2, 2, 3, true⟩]⟩ (.exit 2) st := GE.exit_step (by kernel_rfl) (by kernel_rfl)
theorem n41_26s : codeB Try.prog E cx n41_26 st = condS (codeB Try.prog E cx n41_27) (codeB Try.prog E cx n41_28) (lk st.σ 16) st := GE.cond_step (c := .tmp 16) (by kernel_rfl)
theorem n41_32s : codeB Try.prog E ⟨f, 96, b, ro⟩ n41_32 st = plainS (runOps Try.prog E b q41_32 (ops [true, true, false, true, false, false, true, true, false, false, true, true, false, false, true, true, false, false, false] Try.f41) st) := GE.region_step (id := 7) (GE.reg_of (by kernel_rfl)) (by kernel_rfl)
theorem n41_34s : codeB Try.prog E ⟨f, 96, b, ro⟩ n41_34 st = plainS (runOps Try.prog E b q41_34 (ops [true, true, false, true, false, false, true, true, false, false, true, true, false, false, true, true, false, false, true, false] Try.f41) st) := GE.region_step (id := 8) (GE.reg_of (by kernel_rfl)) (by kernel_rfl)
theorem n41_36s : codeB Try.prog E ⟨f, 96, b, ro⟩ n41_36 st = plainS (runOps Try.prog E b q41_36 (ops [true, true, false, true, false, false, true, true, false, false, true, true, false, false, true, true, false, false, true, true, false] Try.f41) st) := GE.region_step (id := 9) (GE.reg_of (by kernel_rfl)) (by kernel_rfl)
theorem n41_40s : codeB Try.prog E ⟨f, 96, b, ro⟩ n41_40 st = plainS (runOps Try.prog E b q41_40 (ops [true, true, false, true, false, false, true, true, false, false, true, true, false, false, true, true, false, false, true, true, true, false, false, false] Try.f41) st) := GE.region_step (id := 10) (GE.reg_of (by kernel_rfl)) (by kernel_rfl)
theorem n41_43s : codeB Try.prog E cx n41_43 st = some (.normal, st) := GE.skip_step (by kernel_rfl)
theorem n41_44s : codeB Try.prog LL ⟨41, 96, b, ro⟩ n41_44 st = normS b ⟨[6, 15, 1, 2, 4, 5, 12], [⟨2, 2, 3, true⟩]⟩ (.exit 4) st := GE.exit_step (by kernel_rfl) (by kernel_rfl)
theorem n41_42s : codeB Try.prog E cx n41_42 st = condS (codeB Try.prog E cx n41_43) (codeB Try.prog E cx n41_44) (lk st.σ 26) st := GE.cond_step (c := .tmp 26) (by kernel_rfl)
theorem n41_48s : codeB Try.prog E ⟨f, 96, b, ro⟩ n41_48 st = plainS (runOps Try.prog E b q41_48 (ops [true, true, false, true, false, false, true, true, false, false, true, true, false, false, true, true, false, false, true, true, true, false, false, true, true, false, false, false] Try.f41) st) := GE.region_step (id := 11) (GE.reg_of (by kernel_rfl)) (by kernel_rfl)
theorem q41_50g4 : gd q41_50 4 = some 33 := by kernel_rfl
theorem q41_50g11 : gd q41_50 11 = some 40 := by kernel_rfl
theorem n41_50s : codeB Try.prog E ⟨f, 96, b, ro⟩ n41_50 st = plainS (runOps Try.prog E b q41_50 (ops [true, true, false, true, false, false, true, true, false, false, true, true, false, false, true, true, false, false, true, true, true, false, false, true, true, false, false, true, false] Try.f41) st) := GE.region_step (id := 12) (GE.reg_of (by kernel_rfl)) (by kernel_rfl)
theorem n41_52s : codeB Try.prog E ⟨f, 96, b, ro⟩ n41_52 st = plainS (runOps Try.prog E b q41_52 (ops [true, true, false, true, false, false, true, true, false, false, true, true, false, false, true, true, false, false, true, true, true, false, false, true, true, false, false, true, true, false] Try.f41) st) := GE.region_step (id := 13) (GE.reg_of (by kernel_rfl)) (by kernel_rfl)
theorem n41_53s : codeB Try.prog E cx n41_53 st = some (.normal, st) := GE.skip_step (by kernel_rfl)
theorem n41_51s : codeB Try.prog E cx n41_51 st = condS (codeB Try.prog E cx n41_52) (codeB Try.prog E cx n41_53) (lk st.σ 48) st := GE.cond_step (c := .tmp 48) (by kernel_rfl)
theorem n41_49s : codeB Try.prog E cx n41_49 st = thenS (codeB Try.prog E cx n41_50 st) (codeB Try.prog E cx n41_51) := GE.seq_step (by kernel_rfl)
theorem n41_47s : codeB Try.prog E cx n41_47 st = thenS (codeB Try.prog E cx n41_48 st) (codeB Try.prog E cx n41_49) := GE.seq_step (by kernel_rfl)
theorem n41_46s : codeB Try.prog E cx n41_46 st = blockS 5 (codeB Try.prog E cx n41_47 st) st := GE.block_step (by kernel_rfl)
theorem n41_54s : codeB Try.prog E ⟨f, 96, b, ro⟩ n41_54 st = plainS (runOps Try.prog E b q41_54 (ops [true, true, false, true, false, false, true, true, false, false, true, true, false, false, true, true, false, false, true, true, true, false, false, true, true, true] Try.f41) st) := GE.region_step (id := 14) (GE.reg_of (by kernel_rfl)) (by kernel_rfl)
theorem n41_45s : codeB Try.prog E cx n41_45 st = thenS (codeB Try.prog E cx n41_46 st) (codeB Try.prog E cx n41_54) := GE.seq_step (by kernel_rfl)
theorem n41_41s : codeB Try.prog E cx n41_41 st = thenS (codeB Try.prog E cx n41_42 st) (codeB Try.prog E cx n41_45) := GE.seq_step (by kernel_rfl)
theorem n41_39s : codeB Try.prog E cx n41_39 st = thenS (codeB Try.prog E cx n41_40 st) (codeB Try.prog E cx n41_41) := GE.seq_step (by kernel_rfl)
theorem n41_38k : LL.kp (⟨41, 96, b, ro⟩ : Cx).fn (4 * rid n41_39 + 3) = some ⟨[7, 23, 24, 25, 6, 15, 1, 2, 4, 5, 12], [⟨23, 0, 3, true⟩, ⟨2, 2, 3, true⟩]⟩ := by kernel_rfl
theorem n41_38s : codeB Try.prog LL ⟨41, 96, b, ro⟩ n41_38 st = headS b ⟨[7, 23, 24, 25, 6, 15, 1, 2, 4, 5, 12], [⟨23, 0, 3, true⟩, ⟨2, 2, 3, true⟩]⟩ st (lpB Try.prog LL ⟨41, 96, b, ro⟩ n41_38 n41_39) := GE.lpB_step (by kernel_rfl) (n41_38k b ro)
theorem n41_38g : LL.code ⟨41, 96, b, ro⟩ n41_38 st = headS b ⟨[7, 23, 24, 25, 6, 15, 1, 2, 4, 5, 12], [⟨23, 0, 3, true⟩, ⟨2, 2, 3, true⟩]⟩ st (lpB Try.prog LL ⟨41, 96, b, ro⟩ n41_38 n41_39) := GE.lpB_again (by kernel_rfl) (n41_38k b ro)
theorem n41_37s : codeB Try.prog E cx n41_37 st = blockS 4 (codeB Try.prog E cx n41_38 st) st := GE.block_step (by kernel_rfl)
theorem n41_35s : codeB Try.prog E cx n41_35 st = thenS (codeB Try.prog E cx n41_36 st) (codeB Try.prog E cx n41_37) := GE.seq_step (by kernel_rfl)
theorem n41_33s : codeB Try.prog E cx n41_33 st = thenS (codeB Try.prog E cx n41_34 st) (codeB Try.prog E cx n41_35) := GE.seq_step (by kernel_rfl)
theorem n41_31s : codeB Try.prog E cx n41_31 st = thenS (codeB Try.prog E cx n41_32 st) (codeB Try.prog E cx n41_33) := GE.seq_step (by kernel_rfl)
theorem n41_30s : codeB Try.prog E cx n41_30 st = blockS 3 (codeB Try.prog E cx n41_31 st) st := GE.block_step (by kernel_rfl)
theorem n41_55s : codeB Try.prog E ⟨f, 96, b, ro⟩ n41_55 st = plainS (runOps Try.prog E b q41_55 (ops [true, true, false, true, false, false, true, true, false, false, true, true, false, false, true, true, true] Try.f41) st) := GE.region_step (id := 15) (GE.reg_of (by kernel_rfl)) (by kernel_rfl)
theorem n41_29s : codeB Try.prog E cx n41_29 st = thenS (codeB Try.prog E cx n41_30 st) (codeB Try.prog E cx n41_55) := GE.seq_step (by kernel_rfl)
theorem n41_25s : codeB Try.prog E cx n41_25 st = thenS (codeB Try.prog E cx n41_26 st) (codeB Try.prog E cx n41_29) := GE.seq_step (by kernel_rfl)
theorem n41_23s : codeB Try.prog E cx n41_23 st = thenS (codeB Try.prog E cx n41_24 st) (codeB Try.prog E cx n41_25) := GE.seq_step (by kernel_rfl)
theorem n41_22k : LL.kp (⟨41, 96, b, ro⟩ : Cx).fn (4 * rid n41_23 + 3) = some ⟨[6, 15, 1, 2, 4, 5, 12], [⟨2, 2, 3, true⟩]⟩ := by kernel_rfl
theorem n41_22s : codeB Try.prog LL ⟨41, 96, b, ro⟩ n41_22 st = headS b ⟨[6, 15, 1, 2, 4, 5, 12], [⟨2, 2, 3, true⟩]⟩ st (lpB Try.prog LL ⟨41, 96, b, ro⟩ n41_22 n41_23) := GE.lpB_step (by kernel_rfl) (n41_22k b ro)
theorem n41_22g : LL.code ⟨41, 96, b, ro⟩ n41_22 st = headS b ⟨[6, 15, 1, 2, 4, 5, 12], [⟨2, 2, 3, true⟩]⟩ st (lpB Try.prog LL ⟨41, 96, b, ro⟩ n41_22 n41_23) := GE.lpB_again (by kernel_rfl) (n41_22k b ro)
theorem n41_21s : codeB Try.prog E cx n41_21 st = blockS 2 (codeB Try.prog E cx n41_22 st) st := GE.block_step (by kernel_rfl)
theorem n41_19s : codeB Try.prog E cx n41_19 st = thenS (codeB Try.prog E cx n41_20 st) (codeB Try.prog E cx n41_21) := GE.seq_step (by kernel_rfl)
theorem n41_17s : codeB Try.prog E cx n41_17 st = thenS (codeB Try.prog E cx n41_18 st) (codeB Try.prog E cx n41_19) := GE.seq_step (by kernel_rfl)
theorem n41_16s : codeB Try.prog E cx n41_16 st = blockS 1 (codeB Try.prog E cx n41_17 st) st := GE.block_step (by kernel_rfl)
theorem n41_56s : codeB Try.prog E ⟨f, 96, b, ro⟩ n41_56 st = plainS (runOps Try.prog E b q41_56 (ops [true, true, false, true, false, false, true, true, true] Try.f41) st) := GE.region_step (id := 16) (GE.reg_of (by kernel_rfl)) (by kernel_rfl)
theorem n41_15s : codeB Try.prog E cx n41_15 st = thenS (codeB Try.prog E cx n41_16 st) (codeB Try.prog E cx n41_56) := GE.seq_step (by kernel_rfl)
theorem n41_11s : codeB Try.prog E cx n41_11 st = thenS (codeB Try.prog E cx n41_12 st) (codeB Try.prog E cx n41_15) := GE.seq_step (by kernel_rfl)
theorem n41_9s : codeB Try.prog E cx n41_9 st = thenS (codeB Try.prog E cx n41_10 st) (codeB Try.prog E cx n41_11) := GE.seq_step (by kernel_rfl)
theorem n41_8k : LL.kp (⟨41, 96, b, ro⟩ : Cx).fn (4 * rid n41_9 + 3) = some ⟨[1, 2, 4, 5, 12], [⟨2, 2, 3, true⟩]⟩ := by kernel_rfl
theorem n41_8s : codeB Try.prog LL ⟨41, 96, b, ro⟩ n41_8 st = headS b ⟨[1, 2, 4, 5, 12], [⟨2, 2, 3, true⟩]⟩ st (lpB Try.prog LL ⟨41, 96, b, ro⟩ n41_8 n41_9) := GE.lpB_step (by kernel_rfl) (n41_8k b ro)
theorem n41_8g : LL.code ⟨41, 96, b, ro⟩ n41_8 st = headS b ⟨[1, 2, 4, 5, 12], [⟨2, 2, 3, true⟩]⟩ st (lpB Try.prog LL ⟨41, 96, b, ro⟩ n41_8 n41_9) := GE.lpB_again (by kernel_rfl) (n41_8k b ro)
theorem n41_7s : codeB Try.prog E cx n41_7 st = blockS 0 (codeB Try.prog E cx n41_8 st) st := GE.block_step (by kernel_rfl)
theorem n41_5s : codeB Try.prog E cx n41_5 st = thenS (codeB Try.prog E cx n41_6 st) (codeB Try.prog E cx n41_7) := GE.seq_step (by kernel_rfl)
theorem n41_59s : codeB Try.prog E ⟨f, 96, b, ro⟩ n41_59 st = plainS (runOps Try.prog E b q41_59 (ops [true, true, true, false, false] Try.f41) st) := GE.region_step (id := 17) (GE.reg_of (by kernel_rfl)) (by kernel_rfl)
theorem n41_64s : codeB Try.prog E ⟨f, 96, b, ro⟩ n41_64 st = plainS (runOps Try.prog E b q41_64 (ops [true, true, true, false, true, false, false, false, false] Try.f41) st) := GE.region_step (id := 18) (GE.reg_of (by kernel_rfl)) (by kernel_rfl)
theorem n41_66s : codeB Try.prog E cx n41_66 st = some (.normal, st) := GE.skip_step (by kernel_rfl)
theorem n41_67s : codeB Try.prog LL ⟨41, 96, b, ro⟩ n41_67 st = normS b ⟨[1, 2, 4, 5], [⟨2, 2, 3, true⟩]⟩ (.exit 6) st := GE.exit_step (by kernel_rfl) (by kernel_rfl)
theorem n41_65s : codeB Try.prog E cx n41_65 st = condS (codeB Try.prog E cx n41_66) (codeB Try.prog E cx n41_67) (lk st.σ 57) st := GE.cond_step (c := .tmp 57) (by kernel_rfl)
theorem n41_63s : codeB Try.prog E cx n41_63 st = thenS (codeB Try.prog E cx n41_64 st) (codeB Try.prog E cx n41_65) := GE.seq_step (by kernel_rfl)
theorem n41_70s : codeB Try.prog E ⟨f, 96, b, ro⟩ n41_70 st = drawS [0, 1, 3, 0, 8, 0, 32, 0, 128, 0, 0, 1024, 3584, 7680, 15872, 32767] (runOpsF Try.prog E b q41_70 (ops [true, true, true, false, true, false, false, true, false, false] Try.f41) st) := GE.draw_step (id := 20) (GE.reg_of (by kernel_rfl)) (by kernel_rfl) (by kernel_rfl) (by kernel_rfl)
theorem n41_69s : codeB Try.prog E cx n41_69 st = blockS 7 (codeB Try.prog E cx n41_70 st) st := GE.block_step (by kernel_rfl)
theorem n41_71s : codeB Try.prog E ⟨f, 96, b, ro⟩ n41_71 st = plainS (runOps Try.prog E b q41_71 (ops [true, true, true, false, true, false, false, true, true] Try.f41) st) := GE.region_step (id := 19) (GE.reg_of (by kernel_rfl)) (by kernel_rfl)
theorem n41_68s : codeB Try.prog E cx n41_68 st = thenS (codeB Try.prog E cx n41_69 st) (codeB Try.prog E cx n41_71) := GE.seq_step (by kernel_rfl)
theorem n41_62s : codeB Try.prog E cx n41_62 st = thenS (codeB Try.prog E cx n41_63 st) (codeB Try.prog E cx n41_68) := GE.seq_step (by kernel_rfl)
theorem n41_61k : LL.kp (⟨41, 96, b, ro⟩ : Cx).fn (4 * rid n41_62 + 3) = some ⟨[1, 2, 4, 5, 10], [⟨2, 2, 3, true⟩]⟩ := by kernel_rfl
theorem n41_61s : codeB Try.prog LL ⟨41, 96, b, ro⟩ n41_61 st = headS b ⟨[1, 2, 4, 5, 10], [⟨2, 2, 3, true⟩]⟩ st (lpB Try.prog LL ⟨41, 96, b, ro⟩ n41_61 n41_62) := GE.lpB_step (by kernel_rfl) (n41_61k b ro)
theorem n41_61g : LL.code ⟨41, 96, b, ro⟩ n41_61 st = headS b ⟨[1, 2, 4, 5, 10], [⟨2, 2, 3, true⟩]⟩ st (lpB Try.prog LL ⟨41, 96, b, ro⟩ n41_61 n41_62) := GE.lpB_again (by kernel_rfl) (n41_61k b ro)
theorem n41_60s : codeB Try.prog E cx n41_60 st = blockS 6 (codeB Try.prog E cx n41_61 st) st := GE.block_step (by kernel_rfl)
theorem n41_58s : codeB Try.prog E cx n41_58 st = thenS (codeB Try.prog E cx n41_59 st) (codeB Try.prog E cx n41_60) := GE.seq_step (by kernel_rfl)
theorem n41_74s : codeB Try.prog E ⟨f, 96, b, ro⟩ n41_74 st = plainS (runOps Try.prog E b q41_74 (ops [true, true, true, true, false, false] Try.f41) st) := GE.region_step (id := 21) (GE.reg_of (by kernel_rfl)) (by kernel_rfl)
theorem n41_79s : codeB Try.prog E ⟨f, 96, b, ro⟩ n41_79 st = plainS (runOps Try.prog E b q41_79 (ops [true, true, true, true, false, true, false, false, false, false] Try.f41) st) := GE.region_step (id := 22) (GE.reg_of (by kernel_rfl)) (by kernel_rfl)
theorem n41_81s : codeB Try.prog E cx n41_81 st = some (.normal, st) := GE.skip_step (by kernel_rfl)
theorem n41_82s : codeB Try.prog LL ⟨41, 96, b, ro⟩ n41_82 st = normS b ⟨[4, 5], []⟩ (.exit 8) st := GE.exit_step (by kernel_rfl) (by kernel_rfl)
theorem n41_80s : codeB Try.prog E cx n41_80 st = condS (codeB Try.prog E cx n41_81) (codeB Try.prog E cx n41_82) (lk st.σ 77) st := GE.cond_step (c := .tmp 77) (by kernel_rfl)
theorem n41_78s : codeB Try.prog E cx n41_78 st = thenS (codeB Try.prog E cx n41_79 st) (codeB Try.prog E cx n41_80) := GE.seq_step (by kernel_rfl)
theorem n41_85s : codeB Try.prog E ⟨f, 96, b, ro⟩ n41_85 st = drawS [0, 1, 3, 0, 8, 0, 32, 0, 128, 0, 0, 1536, 3584, 7680, 16383] (runOpsF Try.prog E b q41_85 (ops [true, true, true, true, false, true, false, false, true, false, false] Try.f41) st) := GE.draw_step (id := 24) (GE.reg_of (by kernel_rfl)) (by kernel_rfl) (by kernel_rfl) (by kernel_rfl)
theorem n41_84s : codeB Try.prog E cx n41_84 st = blockS 9 (codeB Try.prog E cx n41_85 st) st := GE.block_step (by kernel_rfl)
theorem n41_86s : codeB Try.prog E ⟨f, 96, b, ro⟩ n41_86 st = plainS (runOps Try.prog E b q41_86 (ops [true, true, true, true, false, true, false, false, true, true] Try.f41) st) := GE.region_step (id := 23) (GE.reg_of (by kernel_rfl)) (by kernel_rfl)
theorem n41_83s : codeB Try.prog E cx n41_83 st = thenS (codeB Try.prog E cx n41_84 st) (codeB Try.prog E cx n41_86) := GE.seq_step (by kernel_rfl)
theorem n41_77s : codeB Try.prog E cx n41_77 st = thenS (codeB Try.prog E cx n41_78 st) (codeB Try.prog E cx n41_83) := GE.seq_step (by kernel_rfl)
theorem n41_76k : LL.kp (⟨41, 96, b, ro⟩ : Cx).fn (4 * rid n41_77 + 3) = some ⟨[1, 2, 4, 5, 11], [⟨2, 2, 3, true⟩]⟩ := by kernel_rfl
theorem n41_76s : codeB Try.prog LL ⟨41, 96, b, ro⟩ n41_76 st = headS b ⟨[1, 2, 4, 5, 11], [⟨2, 2, 3, true⟩]⟩ st (lpB Try.prog LL ⟨41, 96, b, ro⟩ n41_76 n41_77) := GE.lpB_step (by kernel_rfl) (n41_76k b ro)
theorem n41_76g : LL.code ⟨41, 96, b, ro⟩ n41_76 st = headS b ⟨[1, 2, 4, 5, 11], [⟨2, 2, 3, true⟩]⟩ st (lpB Try.prog LL ⟨41, 96, b, ro⟩ n41_76 n41_77) := GE.lpB_again (by kernel_rfl) (n41_76k b ro)
theorem n41_75s : codeB Try.prog E cx n41_75 st = blockS 8 (codeB Try.prog E cx n41_76 st) st := GE.block_step (by kernel_rfl)
theorem n41_73s : codeB Try.prog E cx n41_73 st = thenS (codeB Try.prog E cx n41_74 st) (codeB Try.prog E cx n41_75) := GE.seq_step (by kernel_rfl)
theorem n41_88s : codeB Try.prog E ⟨f, 96, b, ro⟩ n41_88 st = plainS (runOps Try.prog E b q41_88 (ops [true, true, true, true, true, false] Try.f41) st) := GE.region_step (id := 25) (GE.reg_of (by kernel_rfl)) (by kernel_rfl)
theorem n41_89s : codeB Try.prog LL ⟨41, 96, b, ro⟩ n41_89 st = normS b ⟨[4], []⟩ .ret st := GE.ret_step (by kernel_rfl) (by kernel_rfl)
theorem n41_87s : codeB Try.prog E cx n41_87 st = thenS (codeB Try.prog E cx n41_88 st) (codeB Try.prog E cx n41_89) := GE.seq_step (by kernel_rfl)
theorem n41_72s : codeB Try.prog E cx n41_72 st = thenS (codeB Try.prog E cx n41_73 st) (codeB Try.prog E cx n41_87) := GE.seq_step (by kernel_rfl)
theorem n41_57s : codeB Try.prog E cx n41_57 st = thenS (codeB Try.prog E cx n41_58 st) (codeB Try.prog E cx n41_72) := GE.seq_step (by kernel_rfl)
theorem n41_4s : codeB Try.prog E cx n41_4 st = thenS (codeB Try.prog E cx n41_5 st) (codeB Try.prog E cx n41_57) := GE.seq_step (by kernel_rfl)
theorem n41_2s : codeB Try.prog E cx n41_2 st = thenS (codeB Try.prog E cx n41_3 st) (codeB Try.prog E cx n41_4) := GE.seq_step (by kernel_rfl)
theorem n41_0s : codeB Try.prog E cx n41_0 st = thenS (codeB Try.prog E cx n41_1 st) (codeB Try.prog E cx n41_2) := GE.seq_step (by kernel_rfl)
noncomputable def n43_0 : Code := bodyOf Try.f43
noncomputable def n43_1 : Code := cl n43_0
noncomputable def q43_1 : List Oper := opsOf n43_1
noncomputable def n43_2 : Code := cr n43_0
noncomputable def n43_3 : Code := cl n43_2
noncomputable def q43_3 : List Oper := opsOf n43_3
noncomputable def n43_4 : Code := cr n43_2
theorem body43 : Try.f43.body = some n43_0 := by kernel_rfl
theorem run43 (E : Ev) (args : List Value) (h : List Blk) (hl : args.length ≤ 12) : runB Try.prog E 43 args h = endS Try.prog [.cell 6 59] h.length (codeB Try.prog E ⟨43, 12, h.length, none⟩ n43_0 ⟨enumT 0 args, h, []⟩) := GE.run_step Try.func43 body43 (by kernel_rfl) (by decide) (by kernel_rfl) hl
theorem n43_1s : codeB Try.prog E ⟨f, 12, b, ro⟩ n43_1 st = plainS (runOps Try.prog E b q43_1 (ops [false] Try.f43) st) := GE.region_step (id := 0) (GE.reg_of (by kernel_rfl)) (by kernel_rfl)
theorem n43_3s : codeB Try.prog E ⟨f, 12, b, ro⟩ n43_3 st = plainS (runOps Try.prog E b q43_3 (ops [true, false] Try.f43) st) := GE.region_step (id := 1) (GE.reg_of (by kernel_rfl)) (by kernel_rfl)
theorem n43_4s : codeB Try.prog LL ⟨43, 12, b, ro⟩ n43_4 st = normS b ⟨[6], []⟩ .ret st := GE.ret_step (by kernel_rfl) (by kernel_rfl)
theorem n43_2s : codeB Try.prog E cx n43_2 st = thenS (codeB Try.prog E cx n43_3 st) (codeB Try.prog E cx n43_4) := GE.seq_step (by kernel_rfl)
theorem n43_0s : codeB Try.prog E cx n43_0 st = thenS (codeB Try.prog E cx n43_1 st) (codeB Try.prog E cx n43_2) := GE.seq_step (by kernel_rfl)
noncomputable def n53_0 : Code := bodyOf Try.f53
noncomputable def n53_1 : Code := cl n53_0
noncomputable def q53_1 : List Oper := opsOf n53_1
noncomputable def n53_2 : Code := cr n53_0
noncomputable def n53_3 : Code := cl n53_2
noncomputable def q53_3 : List Oper := opsOf n53_3
noncomputable def n53_4 : Code := cr n53_2
noncomputable def n53_5 : Code := cl n53_4
noncomputable def n53_6 : Code := cl n53_5
noncomputable def q53_6 : List Oper := opsOf n53_6
noncomputable def n53_7 : Code := cr n53_5
noncomputable def n53_8 : Code := cl n53_7
noncomputable def n53_9 : Code := cl n53_8
noncomputable def q53_9 : List Oper := opsOf n53_9
noncomputable def n53_10 : Code := cr n53_8
noncomputable def n53_11 : Code := cr n53_7
noncomputable def n53_12 : Code := cr n53_4
noncomputable def n53_13 : Code := cl n53_12
noncomputable def q53_13 : List Oper := opsOf n53_13
noncomputable def n53_14 : Code := cr n53_12
theorem body53 : Try.f53.body = some n53_0 := by kernel_rfl
theorem run53 (E : Ev) (args : List Value) (h : List Blk) (hl : args.length ≤ 24) : runB Try.prog E 53 args h = endS Try.prog [.cell 4 115, .tmp 5] h.length (codeB Try.prog E ⟨53, 24, h.length, none⟩ n53_0 ⟨enumT 0 args, h, []⟩) := GE.run_step Try.func53 body53 (by kernel_rfl) (by decide) (by kernel_rfl) hl
theorem n53_1s : codeB Try.prog E ⟨f, 24, b, ro⟩ n53_1 st = plainS (runOps Try.prog E b q53_1 (ops [false] Try.f53) st) := GE.region_step (id := 0) (GE.reg_of (by kernel_rfl)) (by kernel_rfl)
theorem n53_3s : codeB Try.prog E ⟨f, 24, b, ro⟩ n53_3 st = plainS (runOps Try.prog E b q53_3 (ops [true, false] Try.f53) st) := GE.region_step (id := 1) (GE.reg_of (by kernel_rfl)) (by kernel_rfl)
theorem q53_6g2 : gd q53_6 2 = some 16 := by kernel_rfl
theorem n53_6s : codeB Try.prog E ⟨f, 24, b, ro⟩ n53_6 st = plainS (runOps Try.prog E b q53_6 (ops [true, true, false, false] Try.f53) st) := GE.region_step (id := 2) (GE.reg_of (by kernel_rfl)) (by kernel_rfl)
theorem n53_9s : codeB Try.prog E ⟨f, 24, b, ro⟩ n53_9 st = plainS (runOps Try.prog E b q53_9 (ops [true, true, false, true, false, false] Try.f53) st) := GE.region_step (id := 3) (GE.reg_of (by kernel_rfl)) (by kernel_rfl)
theorem n53_10s : codeB Try.prog LL ⟨53, 24, b, ro⟩ n53_10 st = normS b ⟨[4, 5], [⟨4, 2, 3, true⟩, ⟨4, 3, 1, true⟩]⟩ .ret st := GE.ret_step (by kernel_rfl) (by kernel_rfl)
theorem n53_8s : codeB Try.prog E cx n53_8 st = thenS (codeB Try.prog E cx n53_9 st) (codeB Try.prog E cx n53_10) := GE.seq_step (by kernel_rfl)
theorem n53_11s : codeB Try.prog E cx n53_11 st = some (.normal, st) := GE.skip_step (by kernel_rfl)
theorem n53_7s : codeB Try.prog E cx n53_7 st = condS (codeB Try.prog E cx n53_8) (codeB Try.prog E cx n53_11) (lk st.σ 20) st := GE.cond_step (c := .tmp 20) (by kernel_rfl)
theorem n53_5s : codeB Try.prog E cx n53_5 st = thenS (codeB Try.prog E cx n53_6 st) (codeB Try.prog E cx n53_7) := GE.seq_step (by kernel_rfl)
theorem n53_13s : codeB Try.prog E ⟨f, 24, b, ro⟩ n53_13 st = plainS (runOps Try.prog E b q53_13 (ops [true, true, true, false] Try.f53) st) := GE.region_step (id := 4) (GE.reg_of (by kernel_rfl)) (by kernel_rfl)
theorem n53_14s : codeB Try.prog LL ⟨53, 24, b, ro⟩ n53_14 st = normS b ⟨[4, 5], [⟨4, 2, 3, true⟩, ⟨4, 3, 1, true⟩]⟩ .ret st := GE.ret_step (by kernel_rfl) (by kernel_rfl)
theorem n53_12s : codeB Try.prog E cx n53_12 st = thenS (codeB Try.prog E cx n53_13 st) (codeB Try.prog E cx n53_14) := GE.seq_step (by kernel_rfl)
theorem n53_4s : codeB Try.prog E cx n53_4 st = thenS (codeB Try.prog E cx n53_5 st) (codeB Try.prog E cx n53_12) := GE.seq_step (by kernel_rfl)
theorem n53_2s : codeB Try.prog E cx n53_2 st = thenS (codeB Try.prog E cx n53_3 st) (codeB Try.prog E cx n53_4) := GE.seq_step (by kernel_rfl)
theorem n53_0s : codeB Try.prog E cx n53_0 st = thenS (codeB Try.prog E cx n53_1 st) (codeB Try.prog E cx n53_2) := GE.seq_step (by kernel_rfl)
noncomputable def n56_0 : Code := bodyOf Try.f56
noncomputable def n56_1 : Code := cl n56_0
noncomputable def q56_1 : List Oper := opsOf n56_1
noncomputable def n56_2 : Code := cr n56_0
noncomputable def n56_3 : Code := cl n56_2
noncomputable def q56_3 : List Oper := opsOf n56_3
noncomputable def n56_4 : Code := cr n56_2
theorem body56 : Try.f56.body = some n56_0 := by kernel_rfl
theorem run56 (E : Ev) (args : List Value) (h : List Blk) (hl : args.length ≤ 15) : runB Try.prog E 56 args h = endS Try.prog [.tmp 6] h.length (codeB Try.prog E ⟨56, 15, h.length, none⟩ n56_0 ⟨enumT 0 args, h, []⟩) := GE.run_step Try.func56 body56 (by kernel_rfl) (by decide) (by kernel_rfl) hl
theorem n56_1s : codeB Try.prog E ⟨f, 15, b, ro⟩ n56_1 st = plainS (runOps Try.prog E b q56_1 (ops [false] Try.f56) st) := GE.region_step (id := 0) (GE.reg_of (by kernel_rfl)) (by kernel_rfl)
theorem q56_3g3 : gd q56_3 3 = some 10 := by kernel_rfl
theorem n56_3s : codeB Try.prog E ⟨f, 15, b, ro⟩ n56_3 st = plainS (runOps Try.prog E b q56_3 (ops [true, false] Try.f56) st) := GE.region_step (id := 1) (GE.reg_of (by kernel_rfl)) (by kernel_rfl)
theorem n56_4s : codeB Try.prog LL ⟨56, 15, b, ro⟩ n56_4 st = normS b ⟨[6], []⟩ .ret st := GE.ret_step (by kernel_rfl) (by kernel_rfl)
theorem n56_2s : codeB Try.prog E cx n56_2 st = thenS (codeB Try.prog E cx n56_3 st) (codeB Try.prog E cx n56_4) := GE.seq_step (by kernel_rfl)
theorem n56_0s : codeB Try.prog E cx n56_0 st = thenS (codeB Try.prog E cx n56_1 st) (codeB Try.prog E cx n56_2) := GE.seq_step (by kernel_rfl)
noncomputable def n57_0 : Code := bodyOf Try.f57
noncomputable def n57_1 : Code := cl n57_0
noncomputable def q57_1 : List Oper := opsOf n57_1
noncomputable def n57_2 : Code := cr n57_0
noncomputable def n57_3 : Code := cl n57_2
noncomputable def q57_3 : List Oper := opsOf n57_3
noncomputable def n57_4 : Code := cr n57_2
theorem body57 : Try.f57.body = some n57_0 := by kernel_rfl
theorem run57 (E : Ev) (args : List Value) (h : List Blk) (hl : args.length ≤ 21) : runB Try.prog E 57 args h = endS Try.prog [.tmp 2] h.length (codeB Try.prog E ⟨57, 21, h.length, none⟩ n57_0 ⟨enumT 0 args, h, []⟩) := GE.run_step Try.func57 body57 (by kernel_rfl) (by decide) (by kernel_rfl) hl
theorem n57_1s : codeB Try.prog E ⟨f, 21, b, ro⟩ n57_1 st = plainS (runOps Try.prog E b q57_1 (ops [false] Try.f57) st) := GE.region_step (id := 0) (GE.reg_of (by kernel_rfl)) (by kernel_rfl)
theorem q57_3g3 : gd q57_3 3 = some 6 := by kernel_rfl
theorem q57_3g12 : gd q57_3 12 = some 15 := by kernel_rfl
theorem n57_3s : codeB Try.prog E ⟨f, 21, b, ro⟩ n57_3 st = plainS (runOps Try.prog E b q57_3 (ops [true, false] Try.f57) st) := GE.region_step (id := 1) (GE.reg_of (by kernel_rfl)) (by kernel_rfl)
theorem n57_4s : codeB Try.prog LL ⟨57, 21, b, ro⟩ n57_4 st = normS b ⟨[2], []⟩ .ret st := GE.ret_step (by kernel_rfl) (by kernel_rfl)
theorem n57_2s : codeB Try.prog E cx n57_2 st = thenS (codeB Try.prog E cx n57_3 st) (codeB Try.prog E cx n57_4) := GE.seq_step (by kernel_rfl)
theorem n57_0s : codeB Try.prog E cx n57_0 st = thenS (codeB Try.prog E cx n57_1 st) (codeB Try.prog E cx n57_2) := GE.seq_step (by kernel_rfl)
noncomputable def n58_0 : Code := bodyOf Try.f58
noncomputable def n58_1 : Code := cl n58_0
noncomputable def q58_1 : List Oper := opsOf n58_1
noncomputable def n58_2 : Code := cr n58_0
noncomputable def n58_3 : Code := cl n58_2
noncomputable def q58_3 : List Oper := opsOf n58_3
noncomputable def n58_4 : Code := cr n58_2
noncomputable def n58_5 : Code := cl n58_4
noncomputable def q58_5 : List Oper := opsOf n58_5
noncomputable def n58_6 : Code := cr n58_4
theorem body58 : Try.f58.body = some n58_0 := by kernel_rfl
theorem run58 (E : Ev) (args : List Value) (h : List Blk) (hl : args.length ≤ 27) : runB Try.prog E 58 args h = endS Try.prog [.tmp 6] h.length (codeB Try.prog E ⟨58, 27, h.length, none⟩ n58_0 ⟨enumT 0 args, h, []⟩) := GE.run_step Try.func58 body58 (by kernel_rfl) (by decide) (by kernel_rfl) hl
theorem n58_1s : codeB Try.prog E ⟨f, 27, b, ro⟩ n58_1 st = plainS (runOps Try.prog E b q58_1 (ops [false] Try.f58) st) := GE.region_step (id := 0) (GE.reg_of (by kernel_rfl)) (by kernel_rfl)
theorem n58_3s : codeB Try.prog E ⟨f, 27, b, ro⟩ n58_3 st = plainS (runOps Try.prog E b q58_3 (ops [true, false] Try.f58) st) := GE.region_step (id := 1) (GE.reg_of (by kernel_rfl)) (by kernel_rfl)
theorem q58_5g6 : gd q58_5 6 = some 19 := by kernel_rfl
theorem n58_5s : codeB Try.prog E ⟨f, 27, b, ro⟩ n58_5 st = plainS (runOps Try.prog E b q58_5 (ops [true, true, false] Try.f58) st) := GE.region_step (id := 2) (GE.reg_of (by kernel_rfl)) (by kernel_rfl)
theorem n58_6s : codeB Try.prog LL ⟨58, 27, b, ro⟩ n58_6 st = normS b ⟨[6], []⟩ .ret st := GE.ret_step (by kernel_rfl) (by kernel_rfl)
theorem n58_4s : codeB Try.prog E cx n58_4 st = thenS (codeB Try.prog E cx n58_5 st) (codeB Try.prog E cx n58_6) := GE.seq_step (by kernel_rfl)
theorem n58_2s : codeB Try.prog E cx n58_2 st = thenS (codeB Try.prog E cx n58_3 st) (codeB Try.prog E cx n58_4) := GE.seq_step (by kernel_rfl)
theorem n58_0s : codeB Try.prog E cx n58_0 st = thenS (codeB Try.prog E cx n58_1 st) (codeB Try.prog E cx n58_2) := GE.seq_step (by kernel_rfl)
noncomputable def n61_0 : Code := bodyOf Try.f61
noncomputable def n61_1 : Code := cl n61_0
noncomputable def q61_1 : List Oper := opsOf n61_1
noncomputable def n61_2 : Code := cr n61_0
noncomputable def n61_3 : Code := cl n61_2
noncomputable def q61_3 : List Oper := opsOf n61_3
noncomputable def n61_4 : Code := cr n61_2
noncomputable def n61_5 : Code := cl n61_4
noncomputable def q61_5 : List Oper := opsOf n61_5
noncomputable def n61_6 : Code := cr n61_4
noncomputable def n61_7 : Code := cl n61_6
noncomputable def n61_8 : Code := cl n61_7
noncomputable def q61_8 : List Oper := opsOf n61_8
noncomputable def n61_9 : Code := cr n61_7
noncomputable def n61_10 : Code := cl n61_9
noncomputable def n61_11 : Code := cl n61_10
noncomputable def q61_11 : List Oper := opsOf n61_11
noncomputable def n61_12 : Code := cr n61_10
noncomputable def n61_13 : Code := cl n61_12
noncomputable def q61_13 : List Oper := opsOf n61_13
noncomputable def n61_14 : Code := cr n61_6
noncomputable def n61_15 : Code := cl n61_14
noncomputable def q61_15 : List Oper := opsOf n61_15
noncomputable def n61_16 : Code := cr n61_14
theorem body61 : Try.f61.body = some n61_0 := by kernel_rfl
theorem run61 (E : Ev) (args : List Value) (h : List Blk) (hl : args.length ≤ 25) : runB Try.prog E 61 args h = endS Try.prog [.cell 4 127] h.length (codeB Try.prog E ⟨61, 25, h.length, none⟩ n61_0 ⟨enumT 0 args, h, []⟩) := GE.run_step Try.func61 body61 (by kernel_rfl) (by decide) (by kernel_rfl) hl
theorem n61_1s : codeB Try.prog E ⟨f, 25, b, ro⟩ n61_1 st = plainS (runOps Try.prog E b q61_1 (ops [false] Try.f61) st) := GE.region_step (id := 0) (GE.reg_of (by kernel_rfl)) (by kernel_rfl)
theorem n61_3s : codeB Try.prog E ⟨f, 25, b, ro⟩ n61_3 st = plainS (runOps Try.prog E b q61_3 (ops [true, false] Try.f61) st) := GE.region_step (id := 1) (GE.reg_of (by kernel_rfl)) (by kernel_rfl)
theorem n61_5s : codeB Try.prog E ⟨f, 25, b, ro⟩ n61_5 st = plainS (runOps Try.prog E b q61_5 (ops [true, true, false] Try.f61) st) := GE.region_step (id := 2) (GE.reg_of (by kernel_rfl)) (by kernel_rfl)
theorem n61_8s : codeB Try.prog E ⟨f, 25, b, ro⟩ n61_8 st = drawS [0, 0, 0, 6, 15] (runOpsF Try.prog E b q61_8 (ops [true, true, true, false, false] Try.f61) st) := GE.draw_step (id := 3) (GE.reg_of (by kernel_rfl)) (by kernel_rfl) (by kernel_rfl) (by kernel_rfl)
theorem n61_11s : codeB Try.prog E ⟨f, 25, b, ro⟩ n61_11 st = plainS (runOps Try.prog E b q61_11 (ops [true, true, true, false, true, false, false] Try.f61) st) := GE.region_step (id := 4) (GE.reg_of (by kernel_rfl)) (by kernel_rfl)
theorem n61_13s : codeB Try.prog E ⟨f, 25, b, ro⟩ n61_13 st = drawS [0, 0, 2, 0, 0, 30, 63] (runOpsF Try.prog E b q61_13 (ops [true, true, true, false, true, false, true, false] Try.f61) st) := GE.draw_step (id := 5) (GE.reg_of (by kernel_rfl)) (by kernel_rfl) (by kernel_rfl) (by kernel_rfl)
theorem n61_12s : codeB Try.prog E cx n61_12 st = blockS 1 (codeB Try.prog E cx n61_13 st) st := GE.block_step (by kernel_rfl)
theorem n61_10e : n61_10 = .rangeFunc (.tmp 14) #[15, 16] n61_11 n61_12 := by kernel_rfl
theorem n61_10k : (ue n61_11).1 ++ (ue n61_12).1 = [16, 6, 2, 8, 3] := by kernel_rfl
theorem n61_9s : codeB Try.prog E cx n61_9 st = blockS 0 (codeB Try.prog E cx n61_10 st) st := GE.block_step (by kernel_rfl)
theorem n61_7s : codeB Try.prog E cx n61_7 st = thenS (codeB Try.prog E cx n61_8 st) (codeB Try.prog E cx n61_9) := GE.seq_step (by kernel_rfl)
theorem n61_15s : codeB Try.prog E ⟨f, 25, b, ro⟩ n61_15 st = plainS (runOps Try.prog E b q61_15 (ops [true, true, true, true, false] Try.f61) st) := GE.region_step (id := 6) (GE.reg_of (by kernel_rfl)) (by kernel_rfl)
theorem n61_16s : codeB Try.prog LL ⟨61, 25, b, ro⟩ n61_16 st = normS b ⟨[4], []⟩ .ret st := GE.ret_step (by kernel_rfl) (by kernel_rfl)
theorem n61_14s : codeB Try.prog E cx n61_14 st = thenS (codeB Try.prog E cx n61_15 st) (codeB Try.prog E cx n61_16) := GE.seq_step (by kernel_rfl)
theorem n61_6s : codeB Try.prog E cx n61_6 st = thenS (codeB Try.prog E cx n61_7 st) (codeB Try.prog E cx n61_14) := GE.seq_step (by kernel_rfl)
theorem n61_4s : codeB Try.prog E cx n61_4 st = thenS (codeB Try.prog E cx n61_5 st) (codeB Try.prog E cx n61_6) := GE.seq_step (by kernel_rfl)
theorem n61_2s : codeB Try.prog E cx n61_2 st = thenS (codeB Try.prog E cx n61_3 st) (codeB Try.prog E cx n61_4) := GE.seq_step (by kernel_rfl)
theorem n61_0s : codeB Try.prog E cx n61_0 st = thenS (codeB Try.prog E cx n61_1 st) (codeB Try.prog E cx n61_2) := GE.seq_step (by kernel_rfl)
noncomputable def n70_0 : Code := bodyOf Try.f70
noncomputable def n70_1 : Code := cl n70_0
noncomputable def q70_1 : List Oper := opsOf n70_1
noncomputable def n70_2 : Code := cr n70_0
noncomputable def n70_3 : Code := cl n70_2
noncomputable def q70_3 : List Oper := opsOf n70_3
noncomputable def n70_4 : Code := cr n70_2
noncomputable def n70_5 : Code := cl n70_4
noncomputable def n70_6 : Code := cl n70_5
noncomputable def q70_6 : List Oper := opsOf n70_6
noncomputable def n70_7 : Code := cr n70_5
noncomputable def n70_8 : Code := cl n70_7
noncomputable def n70_9 : Code := cl n70_8
noncomputable def n70_10 : Code := cl n70_9
noncomputable def q70_10 : List Oper := opsOf n70_10
noncomputable def n70_11 : Code := cr n70_9
noncomputable def n70_12 : Code := cl n70_11
noncomputable def n70_13 : Code := cl n70_12
noncomputable def n70_14 : Code := cr n70_12
noncomputable def n70_15 : Code := cr n70_11
noncomputable def n70_16 : Code := cl n70_15
noncomputable def n70_17 : Code := cl n70_16
noncomputable def n70_18 : Code := cl n70_17
noncomputable def q70_18 : List Oper := opsOf n70_18
noncomputable def n70_19 : Code := cr n70_17
noncomputable def q70_19 : List Oper := opsOf n70_19
noncomputable def n70_20 : Code := cr n70_15
noncomputable def q70_20 : List Oper := opsOf n70_20
noncomputable def n70_21 : Code := cr n70_4
noncomputable def n70_22 : Code := cl n70_21
noncomputable def q70_22 : List Oper := opsOf n70_22
noncomputable def n70_23 : Code := cr n70_21
theorem body70 : Try.f70.body = some n70_0 := by kernel_rfl
theorem run70 (E : Ev) (args : List Value) (h : List Blk) (hl : args.length ≤ 22) : runB Try.prog E 70 args h = endS Try.prog [.tmp 4] h.length (codeB Try.prog E ⟨70, 22, h.length, none⟩ n70_0 ⟨enumT 0 args, h, []⟩) := GE.run_step Try.func70 body70 (by kernel_rfl) (by decide) (by kernel_rfl) hl
theorem n70_1s : codeB Try.prog E ⟨f, 22, b, ro⟩ n70_1 st = plainS (runOps Try.prog E b q70_1 (ops [false] Try.f70) st) := GE.region_step (id := 0) (GE.reg_of (by kernel_rfl)) (by kernel_rfl)
theorem n70_3s : codeB Try.prog E ⟨f, 22, b, ro⟩ n70_3 st = plainS (runOps Try.prog E b q70_3 (ops [true, false] Try.f70) st) := GE.region_step (id := 1) (GE.reg_of (by kernel_rfl)) (by kernel_rfl)
theorem n70_6s : codeB Try.prog E ⟨f, 22, b, ro⟩ n70_6 st = plainS (runOps Try.prog E b q70_6 (ops [true, true, false, false] Try.f70) st) := GE.region_step (id := 2) (GE.reg_of (by kernel_rfl)) (by kernel_rfl)
theorem n70_10s : codeB Try.prog E ⟨f, 22, b, ro⟩ n70_10 st = plainS (runOps Try.prog E b q70_10 (ops [true, true, false, true, false, false, false] Try.f70) st) := GE.region_step (id := 3) (GE.reg_of (by kernel_rfl)) (by kernel_rfl)
theorem n70_13s : codeB Try.prog E cx n70_13 st = some (.normal, st) := GE.skip_step (by kernel_rfl)
theorem n70_14s : codeB Try.prog LL ⟨70, 22, b, ro⟩ n70_14 st = normS b ⟨[5], [⟨5, 0, 1, true⟩]⟩ (.exit 0) st := GE.exit_step (by kernel_rfl) (by kernel_rfl)
theorem n70_12s : codeB Try.prog E cx n70_12 st = condS (codeB Try.prog E cx n70_13) (codeB Try.prog E cx n70_14) (lk st.σ 11) st := GE.cond_step (c := .tmp 11) (by kernel_rfl)
theorem n70_18s : codeB Try.prog E ⟨f, 22, b, ro⟩ n70_18 st = plainS (runOps Try.prog E b q70_18 (ops [true, true, false, true, false, false, true, true, false, false, false] Try.f70) st) := GE.region_step (id := 4) (GE.reg_of (by kernel_rfl)) (by kernel_rfl)
theorem n70_19s : codeB Try.prog E ⟨f, 22, b, ro⟩ n70_19 st = plainS (runOps Try.prog E b q70_19 (ops [true, true, false, true, false, false, true, true, false, false, true] Try.f70) st) := GE.region_step (id := 5) (GE.reg_of (by kernel_rfl)) (by kernel_rfl)
theorem n70_17s : codeB Try.prog E cx n70_17 st = thenS (codeB Try.prog E cx n70_18 st) (codeB Try.prog E cx n70_19) := GE.seq_step (by kernel_rfl)
theorem n70_16s : codeB Try.prog E cx n70_16 st = blockS 1 (codeB Try.prog E cx n70_17 st) st := GE.block_step (by kernel_rfl)
theorem n70_20s : codeB Try.prog E ⟨f, 22, b, ro⟩ n70_20 st = plainS (runOps Try.prog E b q70_20 (ops [true, true, false, true, false, false, true, true, true] Try.f70) st) := GE.region_step (id := 6) (GE.reg_of (by kernel_rfl)) (by kernel_rfl)
theorem n70_15s : codeB Try.prog E cx n70_15 st = thenS (codeB Try.prog E cx n70_16 st) (codeB Try.prog E cx n70_20) := GE.seq_step (by kernel_rfl)
theorem n70_11s : codeB Try.prog E cx n70_11 st = thenS (codeB Try.prog E cx n70_12 st) (codeB Try.prog E cx n70_15) := GE.seq_step (by kernel_rfl)
theorem n70_9s : codeB Try.prog E cx n70_9 st = thenS (codeB Try.prog E cx n70_10 st) (codeB Try.prog E cx n70_11) := GE.seq_step (by kernel_rfl)
theorem n70_8k : LL.kp (⟨70, 22, b, ro⟩ : Cx).fn (4 * rid n70_9 + 3) = some ⟨[1, 5, 8, 9, 10], [⟨5, 0, 1, true⟩, ⟨8, 0, 3, true⟩]⟩ := by kernel_rfl
theorem n70_8s : codeB Try.prog LL ⟨70, 22, b, ro⟩ n70_8 st = headS b ⟨[1, 5, 8, 9, 10], [⟨5, 0, 1, true⟩, ⟨8, 0, 3, true⟩]⟩ st (lpB Try.prog LL ⟨70, 22, b, ro⟩ n70_8 n70_9) := GE.lpB_step (by kernel_rfl) (n70_8k b ro)
theorem n70_8g : LL.code ⟨70, 22, b, ro⟩ n70_8 st = headS b ⟨[1, 5, 8, 9, 10], [⟨5, 0, 1, true⟩, ⟨8, 0, 3, true⟩]⟩ st (lpB Try.prog LL ⟨70, 22, b, ro⟩ n70_8 n70_9) := GE.lpB_again (by kernel_rfl) (n70_8k b ro)
theorem n70_7s : codeB Try.prog E cx n70_7 st = blockS 0 (codeB Try.prog E cx n70_8 st) st := GE.block_step (by kernel_rfl)
theorem n70_5s : codeB Try.prog E cx n70_5 st = thenS (codeB Try.prog E cx n70_6 st) (codeB Try.prog E cx n70_7) := GE.seq_step (by kernel_rfl)
theorem n70_22s : codeB Try.prog E ⟨f, 22, b, ro⟩ n70_22 st = plainS (runOps Try.prog E b q70_22 (ops [true, true, true, false] Try.f70) st) := GE.region_step (id := 7) (GE.reg_of (by kernel_rfl)) (by kernel_rfl)
theorem n70_23s : codeB Try.prog LL ⟨70, 22, b, ro⟩ n70_23 st = normS b ⟨[4], [⟨4, 0, 1, true⟩]⟩ .ret st := GE.ret_step (by kernel_rfl) (by kernel_rfl)
theorem n70_21s : codeB Try.prog E cx n70_21 st = thenS (codeB Try.prog E cx n70_22 st) (codeB Try.prog E cx n70_23) := GE.seq_step (by kernel_rfl)
theorem n70_4s : codeB Try.prog E cx n70_4 st = thenS (codeB Try.prog E cx n70_5 st) (codeB Try.prog E cx n70_21) := GE.seq_step (by kernel_rfl)
theorem n70_2s : codeB Try.prog E cx n70_2 st = thenS (codeB Try.prog E cx n70_3 st) (codeB Try.prog E cx n70_4) := GE.seq_step (by kernel_rfl)
theorem n70_0s : codeB Try.prog E cx n70_0 st = thenS (codeB Try.prog E cx n70_1 st) (codeB Try.prog E cx n70_2) := GE.seq_step (by kernel_rfl)
noncomputable def n71_0 : Code := bodyOf Try.f71
noncomputable def n71_1 : Code := cl n71_0
noncomputable def q71_1 : List Oper := opsOf n71_1
noncomputable def n71_2 : Code := cr n71_0
noncomputable def n71_3 : Code := cl n71_2
noncomputable def q71_3 : List Oper := opsOf n71_3
noncomputable def n71_4 : Code := cr n71_2
theorem body71 : Try.f71.body = some n71_0 := by kernel_rfl
theorem run71 (E : Ev) (args : List Value) (h : List Blk) (hl : args.length ≤ 10) : runB Try.prog E 71 args h = endS Try.prog [.tmp 3] h.length (codeB Try.prog E ⟨71, 10, h.length, none⟩ n71_0 ⟨enumT 0 args, h, []⟩) := GE.run_step Try.func71 body71 (by kernel_rfl) (by decide) (by kernel_rfl) hl
theorem n71_1s : codeB Try.prog E ⟨f, 10, b, ro⟩ n71_1 st = plainS (runOps Try.prog E b q71_1 (ops [false] Try.f71) st) := GE.region_step (id := 0) (GE.reg_of (by kernel_rfl)) (by kernel_rfl)
theorem n71_3s : codeB Try.prog E ⟨f, 10, b, ro⟩ n71_3 st = plainS (runOps Try.prog E b q71_3 (ops [true, false] Try.f71) st) := GE.region_step (id := 1) (GE.reg_of (by kernel_rfl)) (by kernel_rfl)
theorem n71_4s : codeB Try.prog LL ⟨71, 10, b, ro⟩ n71_4 st = normS b ⟨[3], []⟩ .ret st := GE.ret_step (by kernel_rfl) (by kernel_rfl)
theorem n71_2s : codeB Try.prog E cx n71_2 st = thenS (codeB Try.prog E cx n71_3 st) (codeB Try.prog E cx n71_4) := GE.seq_step (by kernel_rfl)
theorem n71_0s : codeB Try.prog E cx n71_0 st = thenS (codeB Try.prog E cx n71_1 st) (codeB Try.prog E cx n71_2) := GE.seq_step (by kernel_rfl)
noncomputable def n72_0 : Code := bodyOf Try.f72
noncomputable def n72_1 : Code := cl n72_0
noncomputable def q72_1 : List Oper := opsOf n72_1
noncomputable def n72_2 : Code := cr n72_0
noncomputable def n72_3 : Code := cl n72_2
noncomputable def n72_4 : Code := cl n72_3
noncomputable def q72_4 : List Oper := opsOf n72_4
noncomputable def n72_5 : Code := cr n72_3
noncomputable def n72_6 : Code := cl n72_5
noncomputable def q72_6 : List Oper := opsOf n72_6
noncomputable def n72_7 : Code := cr n72_5
noncomputable def n72_8 : Code := cl n72_7
noncomputable def n72_9 : Code := cl n72_8
noncomputable def q72_9 : List Oper := opsOf n72_9
noncomputable def n72_10 : Code := cr n72_8
noncomputable def n72_11 : Code := cr n72_7
noncomputable def n72_12 : Code := cr n72_2
noncomputable def n72_13 : Code := cl n72_12
noncomputable def n72_14 : Code := cl n72_13
noncomputable def q72_14 : List Oper := opsOf n72_14
noncomputable def n72_15 : Code := cr n72_13
noncomputable def n72_16 : Code := cl n72_15
noncomputable def n72_17 : Code := cl n72_16
noncomputable def q72_17 : List Oper := opsOf n72_17
noncomputable def n72_18 : Code := cr n72_16
noncomputable def n72_19 : Code := cr n72_15
noncomputable def n72_20 : Code := cr n72_12
noncomputable def n72_21 : Code := cl n72_20
noncomputable def q72_21 : List Oper := opsOf n72_21
noncomputable def n72_22 : Code := cr n72_20
noncomputable def n72_23 : Code := cl n72_22
noncomputable def n72_24 : Code := cl n72_23
noncomputable def q72_24 : List Oper := opsOf n72_24
noncomputable def n72_25 : Code := cr n72_23
noncomputable def n72_26 : Code := cl n72_25
noncomputable def n72_27 : Code := cl n72_26
noncomputable def n72_28 : Code := cl n72_27
noncomputable def q72_28 : List Oper := opsOf n72_28
noncomputable def n72_29 : Code := cr n72_27
noncomputable def n72_30 : Code := cl n72_29
noncomputable def n72_31 : Code := cl n72_30
noncomputable def n72_32 : Code := cr n72_30
noncomputable def n72_33 : Code := cr n72_29
noncomputable def n72_34 : Code := cl n72_33
noncomputable def n72_35 : Code := cl n72_34
noncomputable def n72_36 : Code := cl n72_35
noncomputable def q72_36 : List Oper := opsOf n72_36
noncomputable def n72_37 : Code := cr n72_35
noncomputable def n72_38 : Code := cl n72_37
noncomputable def n72_39 : Code := cl n72_38
noncomputable def n72_40 : Code := cl n72_39
noncomputable def q72_40 : List Oper := opsOf n72_40
noncomputable def n72_41 : Code := cr n72_39
noncomputable def n72_42 : Code := cl n72_41
noncomputable def n72_43 : Code := cl n72_42
noncomputable def q72_43 : List Oper := opsOf n72_43
noncomputable def n72_44 : Code := cr n72_42
noncomputable def n72_45 : Code := cr n72_41
noncomputable def n72_46 : Code := cl n72_45
noncomputable def q72_46 : List Oper := opsOf n72_46
noncomputable def n72_47 : Code := cr n72_45
noncomputable def n72_48 : Code := cl n72_47
noncomputable def n72_49 : Code := cl n72_48
noncomputable def q72_49 : List Oper := opsOf n72_49
noncomputable def n72_50 : Code := cr n72_48
noncomputable def n72_51 : Code := cr n72_47
noncomputable def n72_52 : Code := cr n72_37
noncomputable def q72_52 : List Oper := opsOf n72_52
noncomputable def n72_53 : Code := cr n72_33
noncomputable def q72_53 : List Oper := opsOf n72_53
noncomputable def n72_54 : Code := cr n72_22
noncomputable def n72_55 : Code := cl n72_54
noncomputable def q72_55 : List Oper := opsOf n72_55
noncomputable def n72_56 : Code := cr n72_54
theorem body72 : Try.f72.body = some n72_0 := by kernel_rfl
theorem run72 (E : Ev) (args : List Value) (h : List Blk) (hl : args.length ≤ 41) : runB Try.prog E 72 args h = endS Try.prog [.cell 4 115, .tmp 5] h.length (codeB Try.prog E ⟨72, 41, h.length, none⟩ n72_0 ⟨enumT 0 args, h, []⟩) := GE.run_step Try.func72 body72 (by kernel_rfl) (by decide) (by kernel_rfl) hl
theorem n72_1s : codeB Try.prog E ⟨f, 41, b, ro⟩ n72_1 st = plainS (runOps Try.prog E b q72_1 (ops [false] Try.f72) st) := GE.region_step (id := 0) (GE.reg_of (by kernel_rfl)) (by kernel_rfl)
theorem n72_4s : codeB Try.prog E ⟨f, 41, b, ro⟩ n72_4 st = plainS (runOps Try.prog E b q72_4 (ops [true, false, false] Try.f72) st) := GE.region_step (id := 1) (GE.reg_of (by kernel_rfl)) (by kernel_rfl)
theorem n72_6s : codeB Try.prog E ⟨f, 41, b, ro⟩ n72_6 st = plainS (runOps Try.prog E b q72_6 (ops [true, false, true, false] Try.f72) st) := GE.region_step (id := 2) (GE.reg_of (by kernel_rfl)) (by kernel_rfl)
theorem n72_9s : codeB Try.prog E ⟨f, 41, b, ro⟩ n72_9 st = plainS (runOps Try.prog E b q72_9 (ops [true, false, true, true, false, false] Try.f72) st) := GE.region_step (id := 3) (GE.reg_of (by kernel_rfl)) (by kernel_rfl)
theorem n72_10s : codeB Try.prog LL ⟨72, 41, b, ro⟩ n72_10 st = normS b ⟨[4, 5], [⟨4, 2, 3, true⟩, ⟨4, 3, 1, true⟩]⟩ .ret st := GE.ret_step (by kernel_rfl) (by kernel_rfl)
theorem n72_8s : codeB Try.prog E cx n72_8 st = thenS (codeB Try.prog E cx n72_9 st) (codeB Try.prog E cx n72_10) := GE.seq_step (by kernel_rfl)
theorem n72_11s : codeB Try.prog E cx n72_11 st = some (.normal, st) := GE.skip_step (by kernel_rfl)
theorem n72_7s : codeB Try.prog E cx n72_7 st = condS (codeB Try.prog E cx n72_8) (codeB Try.prog E cx n72_11) (lk st.σ 13) st := GE.cond_step (c := .tmp 13) (by kernel_rfl)
theorem n72_5s : codeB Try.prog E cx n72_5 st = thenS (codeB Try.prog E cx n72_6 st) (codeB Try.prog E cx n72_7) := GE.seq_step (by kernel_rfl)
theorem n72_3s : codeB Try.prog E cx n72_3 st = thenS (codeB Try.prog E cx n72_4 st) (codeB Try.prog E cx n72_5) := GE.seq_step (by kernel_rfl)
theorem n72_14s : codeB Try.prog E ⟨f, 41, b, ro⟩ n72_14 st = plainS (runOps Try.prog E b q72_14 (ops [true, true, false, false] Try.f72) st) := GE.region_step (id := 4) (GE.reg_of (by kernel_rfl)) (by kernel_rfl)
theorem n72_17s : codeB Try.prog E ⟨f, 41, b, ro⟩ n72_17 st = plainS (runOps Try.prog E b q72_17 (ops [true, true, false, true, false, false] Try.f72) st) := GE.region_step (id := 5) (GE.reg_of (by kernel_rfl)) (by kernel_rfl)
theorem n72_18s : codeB Try.prog LL ⟨72, 41, b, ro⟩ n72_18 st = normS b ⟨[4, 5], [⟨4, 2, 3, true⟩, ⟨4, 3, 1, true⟩]⟩ .ret st := GE.ret_step (by kernel_rfl) (by kernel_rfl)
theorem n72_16s : codeB Try.prog E cx n72_16 st = thenS (codeB Try.prog E cx n72_17 st) (codeB Try.prog E cx n72_18) := GE.seq_step (by kernel_rfl)
theorem n72_19s : codeB Try.prog E cx n72_19 st = some (.normal, st) := GE.skip_step (by kernel_rfl)
theorem n72_15s : codeB Try.prog E cx n72_15 st = condS (codeB Try.prog E cx n72_16) (codeB Try.prog E cx n72_19) (lk st.σ 18) st := GE.cond_step (c := .tmp 18) (by kernel_rfl)
theorem n72_13s : codeB Try.prog E cx n72_13 st = thenS (codeB Try.prog E cx n72_14 st) (codeB Try.prog E cx n72_15) := GE.seq_step (by kernel_rfl)
theorem n72_21s : codeB Try.prog E ⟨f, 41, b, ro⟩ n72_21 st = plainS (runOps Try.prog E b q72_21 (ops [true, true, true, false] Try.f72) st) := GE.region_step (id := 6) (GE.reg_of (by kernel_rfl)) (by kernel_rfl)
theorem n72_24s : codeB Try.prog E ⟨f, 41, b, ro⟩ n72_24 st = plainS (runOps Try.prog E b q72_24 (ops [true, true, true, true, false, false] Try.f72) st) := GE.region_step (id := 7) (GE.reg_of (by kernel_rfl)) (by kernel_rfl)
theorem n72_28s : codeB Try.prog E ⟨f, 41, b, ro⟩ n72_28 st = plainS (runOps Try.prog E b q72_28 (ops [true, true, true, true, false, true, false, false, false] Try.f72) st) := GE.region_step (id := 8) (GE.reg_of (by kernel_rfl)) (by kernel_rfl)
theorem n72_31s : codeB Try.prog E cx n72_31 st = some (.normal, st) := GE.skip_step (by kernel_rfl)
theorem n72_32s : codeB Try.prog LL ⟨72, 41, b, ro⟩ n72_32 st = normS b ⟨[1, 2, 4], [⟨1, 0, 1, true⟩, ⟨2, 2, 3, true⟩, ⟨4, 2, 3, true⟩, ⟨4, 3, 1, true⟩]⟩ (.exit 0) st := GE.exit_step (by kernel_rfl) (by kernel_rfl)
theorem n72_30s : codeB Try.prog E cx n72_30 st = condS (codeB Try.prog E cx n72_31) (codeB Try.prog E cx n72_32) (lk st.σ 23) st := GE.cond_step (c := .tmp 23) (by kernel_rfl)
theorem n72_36s : codeB Try.prog E ⟨f, 41, b, ro⟩ n72_36 st = plainS (runOps Try.prog E b q72_36 (ops [true, true, true, true, false, true, false, false, true, true, false, false, false] Try.f72) st) := GE.region_step (id := 9) (GE.reg_of (by kernel_rfl)) (by kernel_rfl)
theorem n72_40s : codeB Try.prog E ⟨f, 41, b, ro⟩ n72_40 st = plainS (runOps Try.prog E b q72_40 (ops [true, true, true, true, false, true, false, false, true, true, false, false, true, false, false, false] Try.f72) st) := GE.region_step (id := 10) (GE.reg_of (by kernel_rfl)) (by kernel_rfl)
theorem n72_43s : codeB Try.prog E ⟨f, 41, b, ro⟩ n72_43 st = plainS (runOps Try.prog E b q72_43 (ops [true, true, true, true, false, true, false, false, true, true, false, false, true, false, false, true, false, false] Try.f72) st) := GE.region_step (id := 11) (GE.reg_of (by kernel_rfl)) (by kernel_rfl)
theorem n72_44s : codeB Try.prog LL ⟨72, 41, b, ro⟩ n72_44 st = normS b ⟨[4, 5], [⟨4, 2, 3, true⟩, ⟨4, 3, 1, true⟩]⟩ .ret st := GE.ret_step (by kernel_rfl) (by kernel_rfl)
theorem n72_42s : codeB Try.prog E cx n72_42 st = thenS (codeB Try.prog E cx n72_43 st) (codeB Try.prog E cx n72_44) := GE.seq_step (by kernel_rfl)
theorem n72_46s : codeB Try.prog E ⟨f, 41, b, ro⟩ n72_46 st = plainS (runOps Try.prog E b q72_46 (ops [true, true, true, true, false, true, false, false, true, true, false, false, true, false, false, true, true, false] Try.f72) st) := GE.region_step (id := 12) (GE.reg_of (by kernel_rfl)) (by kernel_rfl)
theorem n72_49s : codeB Try.prog E ⟨f, 41, b, ro⟩ n72_49 st = plainS (runOps Try.prog E b q72_49 (ops [true, true, true, true, false, true, false, false, true, true, false, false, true, false, false, true, true, true, false, false] Try.f72) st) := GE.region_step (id := 13) (GE.reg_of (by kernel_rfl)) (by kernel_rfl)
theorem n72_50s : codeB Try.prog LL ⟨72, 41, b, ro⟩ n72_50 st = normS b ⟨[4, 5], [⟨4, 2, 3, true⟩, ⟨4, 3, 1, true⟩]⟩ .ret st := GE.ret_step (by kernel_rfl) (by kernel_rfl)
theorem n72_48s : codeB Try.prog E cx n72_48 st = thenS (codeB Try.prog E cx n72_49 st) (codeB Try.prog E cx n72_50) := GE.seq_step (by kernel_rfl)
theorem n72_51s : codeB Try.prog E cx n72_51 st = some (.normal, st) := GE.skip_step (by kernel_rfl)
theorem n72_47s : codeB Try.prog E cx n72_47 st = condS (codeB Try.prog E cx n72_48) (codeB Try.prog E cx n72_51) (lk st.σ 31) st := GE.cond_step (c := .tmp 31) (by kernel_rfl)
theorem n72_45s : codeB Try.prog E cx n72_45 st = thenS (codeB Try.prog E cx n72_46 st) (codeB Try.prog E cx n72_47) := GE.seq_step (by kernel_rfl)
theorem n72_41s : codeB Try.prog E cx n72_41 st = condS (codeB Try.prog E cx n72_42) (codeB Try.prog E cx n72_45) (lk st.σ 26) st := GE.cond_step (c := .tmp 26) (by kernel_rfl)
theorem n72_39s : codeB Try.prog E cx n72_39 st = thenS (codeB Try.prog E cx n72_40 st) (codeB Try.prog E cx n72_41) := GE.seq_step (by kernel_rfl)
theorem n72_38s : codeB Try.prog E cx n72_38 st = blockS 2 (codeB Try.prog E cx n72_39 st) st := GE.block_step (by kernel_rfl)
theorem n72_52s : codeB Try.prog E ⟨f, 41, b, ro⟩ n72_52 st = plainS (runOps Try.prog E b q72_52 (ops [true, true, true, true, false, true, false, false, true, true, false, false, true, true] Try.f72) st) := GE.region_step (id := 14) (GE.reg_of (by kernel_rfl)) (by kernel_rfl)
theorem n72_37s : codeB Try.prog E cx n72_37 st = thenS (codeB Try.prog E cx n72_38 st) (codeB Try.prog E cx n72_52) := GE.seq_step (by kernel_rfl)
theorem n72_35s : codeB Try.prog E cx n72_35 st = thenS (codeB Try.prog E cx n72_36 st) (codeB Try.prog E cx n72_37) := GE.seq_step (by kernel_rfl)
theorem n72_34s : codeB Try.prog E cx n72_34 st = blockS 1 (codeB Try.prog E cx n72_35 st) st := GE.block_step (by kernel_rfl)
theorem n72_53s : codeB Try.prog E ⟨f, 41, b, ro⟩ n72_53 st = plainS (runOps Try.prog E b q72_53 (ops [true, true, true, true, false, true, false, false, true, true, true] Try.f72) st) := GE.region_step (id := 15) (GE.reg_of (by kernel_rfl)) (by kernel_rfl)
theorem n72_33s : codeB Try.prog E cx n72_33 st = thenS (codeB Try.prog E cx n72_34 st) (codeB Try.prog E cx n72_53) := GE.seq_step (by kernel_rfl)
theorem n72_29s : codeB Try.prog E cx n72_29 st = thenS (codeB Try.prog E cx n72_30 st) (codeB Try.prog E cx n72_33) := GE.seq_step (by kernel_rfl)
theorem n72_27s : codeB Try.prog E cx n72_27 st = thenS (codeB Try.prog E cx n72_28 st) (codeB Try.prog E cx n72_29) := GE.seq_step (by kernel_rfl)
theorem n72_26k : LL.kp (⟨72, 41, b, ro⟩ : Cx).fn (4 * rid n72_27 + 3) = some ⟨[1, 2, 4, 7, 20, 21, 22], [⟨1, 0, 1, true⟩, ⟨2, 2, 3, true⟩, ⟨4, 2, 3, true⟩, ⟨4, 3, 1, true⟩, ⟨20, 0, 1, true⟩]⟩ := by kernel_rfl
theorem n72_26s : codeB Try.prog LL ⟨72, 41, b, ro⟩ n72_26 st = headS b ⟨[1, 2, 4, 7, 20, 21, 22], [⟨1, 0, 1, true⟩, ⟨2, 2, 3, true⟩, ⟨4, 2, 3, true⟩, ⟨4, 3, 1, true⟩, ⟨20, 0, 1, true⟩]⟩ st (lpB Try.prog LL ⟨72, 41, b, ro⟩ n72_26 n72_27) := GE.lpB_step (by kernel_rfl) (n72_26k b ro)
theorem n72_26g : LL.code ⟨72, 41, b, ro⟩ n72_26 st = headS b ⟨[1, 2, 4, 7, 20, 21, 22], [⟨1, 0, 1, true⟩, ⟨2, 2, 3, true⟩, ⟨4, 2, 3, true⟩, ⟨4, 3, 1, true⟩, ⟨20, 0, 1, true⟩]⟩ st (lpB Try.prog LL ⟨72, 41, b, ro⟩ n72_26 n72_27) := GE.lpB_again (by kernel_rfl) (n72_26k b ro)
theorem n72_25s : codeB Try.prog E cx n72_25 st = blockS 0 (codeB Try.prog E cx n72_26 st) st := GE.block_step (by kernel_rfl)
theorem n72_23s : codeB Try.prog E cx n72_23 st = thenS (codeB Try.prog E cx n72_24 st) (codeB Try.prog E cx n72_25) := GE.seq_step (by kernel_rfl)
theorem n72_55s : codeB Try.prog E ⟨f, 41, b, ro⟩ n72_55 st = plainS (runOps Try.prog E b q72_55 (ops [true, true, true, true, true, false] Try.f72) st) := GE.region_step (id := 16) (GE.reg_of (by kernel_rfl)) (by kernel_rfl)
theorem n72_56s : codeB Try.prog LL ⟨72, 41, b, ro⟩ n72_56 st = normS b ⟨[4, 5], [⟨4, 2, 3, true⟩, ⟨4, 3, 1, true⟩]⟩ .ret st := GE.ret_step (by kernel_rfl) (by kernel_rfl)
theorem n72_54s : codeB Try.prog E cx n72_54 st = thenS (codeB Try.prog E cx n72_55 st) (codeB Try.prog E cx n72_56) := GE.seq_step (by kernel_rfl)
theorem n72_22s : codeB Try.prog E cx n72_22 st = thenS (codeB Try.prog E cx n72_23 st) (codeB Try.prog E cx n72_54) := GE.seq_step (by kernel_rfl)
theorem n72_20s : codeB Try.prog E cx n72_20 st = thenS (codeB Try.prog E cx n72_21 st) (codeB Try.prog E cx n72_22) := GE.seq_step (by kernel_rfl)
theorem n72_12s : codeB Try.prog E cx n72_12 st = thenS (codeB Try.prog E cx n72_13 st) (codeB Try.prog E cx n72_20) := GE.seq_step (by kernel_rfl)
theorem n72_2s : codeB Try.prog E cx n72_2 st = thenS (codeB Try.prog E cx n72_3 st) (codeB Try.prog E cx n72_12) := GE.seq_step (by kernel_rfl)
theorem n72_0s : codeB Try.prog E cx n72_0 st = thenS (codeB Try.prog E cx n72_1 st) (codeB Try.prog E cx n72_2) := GE.seq_step (by kernel_rfl)
noncomputable def n73_0 : Code := bodyOf Try.f73
noncomputable def n73_1 : Code := cl n73_0
noncomputable def q73_1 : List Oper := opsOf n73_1
noncomputable def n73_2 : Code := cr n73_0
noncomputable def n73_3 : Code := cl n73_2
noncomputable def n73_4 : Code := cl n73_3
noncomputable def q73_4 : List Oper := opsOf n73_4
noncomputable def n73_5 : Code := cr n73_3
noncomputable def n73_6 : Code := cl n73_5
noncomputable def n73_7 : Code := cl n73_6
noncomputable def n73_8 : Code := cl n73_7
noncomputable def q73_8 : List Oper := opsOf n73_8
noncomputable def n73_9 : Code := cr n73_7
noncomputable def n73_10 : Code := cl n73_9
noncomputable def n73_11 : Code := cl n73_10
noncomputable def n73_12 : Code := cr n73_10
noncomputable def n73_13 : Code := cr n73_9
noncomputable def n73_14 : Code := cl n73_13
noncomputable def n73_15 : Code := cl n73_14
noncomputable def n73_16 : Code := cl n73_15
noncomputable def q73_16 : List Oper := opsOf n73_16
noncomputable def n73_17 : Code := cr n73_15
noncomputable def n73_18 : Code := cl n73_17
noncomputable def q73_18 : List Oper := opsOf n73_18
noncomputable def n73_19 : Code := cr n73_17
noncomputable def n73_20 : Code := cl n73_19
noncomputable def n73_21 : Code := cl n73_20
noncomputable def n73_22 : Code := cl n73_21
noncomputable def q73_22 : List Oper := opsOf n73_22
noncomputable def n73_23 : Code := cr n73_21
noncomputable def q73_23 : List Oper := opsOf n73_23
noncomputable def n73_24 : Code := cr n73_20
noncomputable def n73_25 : Code := cl n73_24
noncomputable def n73_26 : Code := cl n73_25
noncomputable def q73_26 : List Oper := opsOf n73_26
noncomputable def n73_27 : Code := cr n73_25
noncomputable def n73_28 : Code := cl n73_27
noncomputable def n73_29 : Code := cl n73_28
noncomputable def q73_29 : List Oper := opsOf n73_29
noncomputable def n73_30 : Code := cr n73_28
noncomputable def n73_31 : Code := cr n73_27
noncomputable def n73_32 : Code := cr n73_13
noncomputable def q73_32 : List Oper := opsOf n73_32
noncomputable def n73_33 : Code := cr n73_2
noncomputable def n73_34 : Code := cl n73_33
noncomputable def q73_34 : List Oper := opsOf n73_34
noncomputable def n73_35 : Code := cr n73_33
theorem body73 : Try.f73.body = some n73_0 := by kernel_rfl
theorem run73 (E : Ev) (args : List Value) (h : List Blk) (hl : args.length ≤ 47) : runB Try.prog E 73 args h = endS Try.prog [.cell 4 4] h.length (codeB Try.prog E ⟨73, 47, h.length, none⟩ n73_0 ⟨enumT 0 args, h, []⟩) := GE.run_step Try.func73 body73 (by kernel_rfl) (by decide) (by kernel_rfl) hl
theorem n73_1s : codeB Try.prog E ⟨f, 47, b, ro⟩ n73_1 st = plainS (runOps Try.prog E b q73_1 (ops [false] Try.f73) st) := GE.region_step (id := 0) (GE.reg_of (by kernel_rfl)) (by kernel_rfl)
theorem n73_4s : codeB Try.prog E ⟨f, 47, b, ro⟩ n73_4 st = plainS (runOps Try.prog E b q73_4 (ops [true, false, false] Try.f73) st) := GE.region_step (id := 1) (GE.reg_of (by kernel_rfl)) (by kernel_rfl)
theorem n73_8s : codeB Try.prog E ⟨f, 47, b, ro⟩ n73_8 st = plainS (runOps Try.prog E b q73_8 (ops [true, false, true, false, false, false] Try.f73) st) := GE.region_step (id := 2) (GE.reg_of (by kernel_rfl)) (by kernel_rfl)
theorem n73_11s : codeB Try.prog E cx n73_11 st = some (.normal, st) := GE.skip_step (by kernel_rfl)
theorem n73_12s : codeB Try.prog LL ⟨73, 47, b, ro⟩ n73_12 st = normS b ⟨[4], []⟩ (.exit 0) st := GE.exit_step (by kernel_rfl) (by kernel_rfl)
theorem n73_10s : codeB Try.prog E cx n73_10 st = condS (codeB Try.prog E cx n73_11) (codeB Try.prog E cx n73_12) (lk st.σ 14) st := GE.cond_step (c := .tmp 14) (by kernel_rfl)
theorem n73_16s : codeB Try.prog E ⟨f, 47, b, ro⟩ n73_16 st = plainS (runOps Try.prog E b q73_16 (ops [true, false, true, false, false, true, true, false, false, false] Try.f73) st) := GE.region_step (id := 3) (GE.reg_of (by kernel_rfl)) (by kernel_rfl)
theorem n73_18s : codeB Try.prog E ⟨f, 47, b, ro⟩ n73_18 st = drawS [0, 0, 0, 4, 14, 31] (runOpsF Try.prog E b q73_18 (ops [true, false, true, false, false, true, true, false, false, true, false] Try.f73) st) := GE.draw_step (id := 4) (GE.reg_of (by kernel_rfl)) (by kernel_rfl) (by kernel_rfl) (by kernel_rfl)
theorem n73_22s : codeB Try.prog E ⟨f, 47, b, ro⟩ n73_22 st = plainS (runOps Try.prog E b q73_22 (ops [true, false, true, false, false, true, true, false, false, true, true, false, false, false] Try.f73) st) := GE.region_step (id := 5) (GE.reg_of (by kernel_rfl)) (by kernel_rfl)
theorem n73_23s : codeB Try.prog E ⟨f, 47, b, ro⟩ n73_23 st = plainS (runOps Try.prog E b q73_23 (ops [true, false, true, false, false, true, true, false, false, true, true, false, false, true] Try.f73) st) := GE.region_step (id := 6) (GE.reg_of (by kernel_rfl)) (by kernel_rfl)
theorem n73_21s : codeB Try.prog E cx n73_21 st = thenS (codeB Try.prog E cx n73_22 st) (codeB Try.prog E cx n73_23) := GE.seq_step (by kernel_rfl)
theorem q73_26g3 : gd q73_26 3 = some 29 := by kernel_rfl
theorem q73_26g8 : gd q73_26 8 = some 34 := by kernel_rfl
theorem q73_26g13 : gd q73_26 13 = some 39 := by kernel_rfl
theorem n73_26s : codeB Try.prog E ⟨f, 47, b, ro⟩ n73_26 st = plainS (runOps Try.prog E b q73_26 (ops [true, false, true, false, false, true, true, false, false, true, true, false, true, false, false] Try.f73) st) := GE.region_step (id := 7) (GE.reg_of (by kernel_rfl)) (by kernel_rfl)
theorem n73_29s : codeB Try.prog E ⟨f, 47, b, ro⟩ n73_29 st = plainS (runOps Try.prog E b q73_29 (ops [true, false, true, false, false, true, true, false, false, true, true, false, true, false, true, false, false] Try.f73) st) := GE.region_step (id := 8) (GE.reg_of (by kernel_rfl)) (by kernel_rfl)
theorem n73_30s : codeB Try.prog LL ⟨73, 47, b, ro⟩ n73_30 st = normS b ⟨[4], []⟩ .ret st := GE.ret_step (by kernel_rfl) (by kernel_rfl)
theorem n73_28s : codeB Try.prog E cx n73_28 st = thenS (codeB Try.prog E cx n73_29 st) (codeB Try.prog E cx n73_30) := GE.seq_step (by kernel_rfl)
theorem n73_31s : codeB Try.prog E cx n73_31 st = some (.normal, st) := GE.skip_step (by kernel_rfl)
theorem n73_27s : codeB Try.prog E cx n73_27 st = condS (codeB Try.prog E cx n73_28) (codeB Try.prog E cx n73_31) (lk st.σ 45) st := GE.cond_step (c := .tmp 45) (by kernel_rfl)
theorem n73_25s : codeB Try.prog E cx n73_25 st = thenS (codeB Try.prog E cx n73_26 st) (codeB Try.prog E cx n73_27) := GE.seq_step (by kernel_rfl)
theorem n73_24s : codeB Try.prog E cx n73_24 st = blockS 3 (codeB Try.prog E cx n73_25 st) st := GE.block_step (by kernel_rfl)
theorem n73_20e : n73_20 = .rangeFunc (.tmp 23) #[24, 25] n73_21 n73_24 := by kernel_rfl
theorem n73_20k : (ue n73_21).1 ++ (ue n73_24).1 = [24, 25, 7, 5, 3, 2, 8, 6, 4] := by kernel_rfl
theorem n73_19s : codeB Try.prog E cx n73_19 st = blockS 2 (codeB Try.prog E cx n73_20 st) st := GE.block_step (by kernel_rfl)
theorem n73_17s : codeB Try.prog E cx n73_17 st = thenS (codeB Try.prog E cx n73_18 st) (codeB Try.prog E cx n73_19) := GE.seq_step (by kernel_rfl)
theorem n73_15s : codeB Try.prog E cx n73_15 st = thenS (codeB Try.prog E cx n73_16 st) (codeB Try.prog E cx n73_17) := GE.seq_step (by kernel_rfl)
theorem n73_14s : codeB Try.prog E cx n73_14 st = blockS 1 (codeB Try.prog E cx n73_15 st) st := GE.block_step (by kernel_rfl)
theorem n73_32s : codeB Try.prog E ⟨f, 47, b, ro⟩ n73_32 st = plainS (runOps Try.prog E b q73_32 (ops [true, false, true, false, false, true, true, true] Try.f73) st) := GE.region_step (id := 9) (GE.reg_of (by kernel_rfl)) (by kernel_rfl)
theorem n73_13s : codeB Try.prog E cx n73_13 st = thenS (codeB Try.prog E cx n73_14 st) (codeB Try.prog E cx n73_32) := GE.seq_step (by kernel_rfl)
theorem n73_9s : codeB Try.prog E cx n73_9 st = thenS (codeB Try.prog E cx n73_10 st) (codeB Try.prog E cx n73_13) := GE.seq_step (by kernel_rfl)
theorem n73_7s : codeB Try.prog E cx n73_7 st = thenS (codeB Try.prog E cx n73_8 st) (codeB Try.prog E cx n73_9) := GE.seq_step (by kernel_rfl)
theorem n73_6k : LL.kp (⟨73, 47, b, ro⟩ : Cx).fn (4 * rid n73_7 + 3) = some ⟨[2, 3, 4, 7, 8, 11, 12, 13, 24, 25], [⟨2, 2, 3, true⟩, ⟨2, 3, 1, true⟩, ⟨11, 0, 3, true⟩]⟩ := by kernel_rfl
theorem n73_6s : codeB Try.prog LL ⟨73, 47, b, ro⟩ n73_6 st = headS b ⟨[2, 3, 4, 7, 8, 11, 12, 13, 24, 25], [⟨2, 2, 3, true⟩, ⟨2, 3, 1, true⟩, ⟨11, 0, 3, true⟩]⟩ st (lpB Try.prog LL ⟨73, 47, b, ro⟩ n73_6 n73_7) := GE.lpB_step (by kernel_rfl) (n73_6k b ro)
theorem n73_6g : LL.code ⟨73, 47, b, ro⟩ n73_6 st = headS b ⟨[2, 3, 4, 7, 8, 11, 12, 13, 24, 25], [⟨2, 2, 3, true⟩, ⟨2, 3, 1, true⟩, ⟨11, 0, 3, true⟩]⟩ st (lpB Try.prog LL ⟨73, 47, b, ro⟩ n73_6 n73_7) := GE.lpB_again (by kernel_rfl) (n73_6k b ro)
theorem n73_5s : codeB Try.prog E cx n73_5 st = blockS 0 (codeB Try.prog E cx n73_6 st) st := GE.block_step (by kernel_rfl)
theorem n73_3s : codeB Try.prog E cx n73_3 st = thenS (codeB Try.prog E cx n73_4 st) (codeB Try.prog E cx n73_5) := GE.seq_step (by kernel_rfl)
theorem n73_34s : codeB Try.prog E ⟨f, 47, b, ro⟩ n73_34 st = plainS (runOps Try.prog E b q73_34 (ops [true, true, false] Try.f73) st) := GE.region_step (id := 10) (GE.reg_of (by kernel_rfl)) (by kernel_rfl)
theorem n73_35s : codeB Try.prog LL ⟨73, 47, b, ro⟩ n73_35 st = normS b ⟨[4], []⟩ .ret st := GE.ret_step (by kernel_rfl) (by kernel_rfl)
theorem n73_33s : codeB Try.prog E cx n73_33 st = thenS (codeB Try.prog E cx n73_34 st) (codeB Try.prog E cx n73_35) := GE.seq_step (by kernel_rfl)
theorem n73_2s : codeB Try.prog E cx n73_2 st = thenS (codeB Try.prog E cx n73_3 st) (codeB Try.prog E cx n73_33) := GE.seq_step (by kernel_rfl)
theorem n73_0s : codeB Try.prog E cx n73_0 st = thenS (codeB Try.prog E cx n73_1 st) (codeB Try.prog E cx n73_2) := GE.seq_step (by kernel_rfl)
noncomputable def n74_0 : Code := bodyOf Try.f74
noncomputable def n74_1 : Code := cl n74_0
noncomputable def q74_1 : List Oper := opsOf n74_1
noncomputable def n74_2 : Code := cr n74_0
noncomputable def n74_3 : Code := cl n74_2
noncomputable def n74_4 : Code := cl n74_3
noncomputable def n74_5 : Code := cl n74_4
noncomputable def q74_5 : List Oper := opsOf n74_5
noncomputable def n74_6 : Code := cr n74_4
noncomputable def n74_7 : Code := cl n74_6
noncomputable def n74_8 : Code := cl n74_7
noncomputable def n74_9 : Code := cr n74_7
noncomputable def n74_10 : Code := cr n74_6
noncomputable def n74_11 : Code := cl n74_10
noncomputable def n74_12 : Code := cl n74_11
noncomputable def n74_13 : Code := cl n74_12
noncomputable def q74_13 : List Oper := opsOf n74_13
noncomputable def n74_14 : Code := cr n74_12
noncomputable def n74_15 : Code := cl n74_14
noncomputable def q74_15 : List Oper := opsOf n74_15
noncomputable def n74_16 : Code := cr n74_14
noncomputable def n74_17 : Code := cl n74_16
noncomputable def n74_18 : Code := cl n74_17
noncomputable def q74_18 : List Oper := opsOf n74_18
noncomputable def n74_19 : Code := cr n74_17
noncomputable def n74_20 : Code := cl n74_19
noncomputable def n74_21 : Code := cl n74_20
noncomputable def n74_22 : Code := cl n74_21
noncomputable def q74_22 : List Oper := opsOf n74_22
noncomputable def n74_23 : Code := cr n74_21
noncomputable def n74_24 : Code := cl n74_23
noncomputable def n74_25 : Code := cl n74_24
noncomputable def n74_26 : Code := cr n74_24
noncomputable def n74_27 : Code := cr n74_23
noncomputable def n74_28 : Code := cl n74_27
noncomputable def n74_29 : Code := cl n74_28
noncomputable def n74_30 : Code := cl n74_29
noncomputable def q74_30 : List Oper := opsOf n74_30
noncomputable def n74_31 : Code := cr n74_29
noncomputable def q74_31 : List Oper := opsOf n74_31
noncomputable def n74_32 : Code := cr n74_27
noncomputable def q74_32 : List Oper := opsOf n74_32
noncomputable def n74_33 : Code := cr n74_16
noncomputable def q74_33 : List Oper := opsOf n74_33
noncomputable def n74_34 : Code := cr n74_10
noncomputable def q74_34 : List Oper := opsOf n74_34
theorem body74 : Try.f74.body = some n74_0 := by kernel_rfl
theorem run74 (E : Ev) (args : List Value) (h : List Blk) (hl : args.length ≤ 58) : runB Try.prog E 74 args h = endS Try.prog [] h.length (codeB Try.prog E ⟨74, 58, h.length, none⟩ n74_0 ⟨enumT 0 args, h, []⟩) := GE.run_step Try.func74 body74 (by kernel_rfl) (by decide) (by kernel_rfl) hl
theorem n74_1s : codeB Try.prog E ⟨f, 58, b, ro⟩ n74_1 st = plainS (runOps Try.prog E b q74_1 (ops [false] Try.f74) st) := GE.region_step (id := 0) (GE.reg_of (by kernel_rfl)) (by kernel_rfl)
theorem n74_5s : codeB Try.prog E ⟨f, 58, b, ro⟩ n74_5 st = plainS (runOps Try.prog E b q74_5 (ops [true, false, false, false] Try.f74) st) := GE.region_step (id := 1) (GE.reg_of (by kernel_rfl)) (by kernel_rfl)
theorem n74_8s : codeB Try.prog E cx n74_8 st = some (.normal, st) := GE.skip_step (by kernel_rfl)
theorem n74_9s : codeB Try.prog LL ⟨74, 58, b, ro⟩ n74_9 st = normS b ⟨[], []⟩ (.exit 0) st := GE.exit_step (by kernel_rfl) (by kernel_rfl)
theorem n74_7s : codeB Try.prog E cx n74_7 st = condS (codeB Try.prog E cx n74_8) (codeB Try.prog E cx n74_9) (lk st.σ 14) st := GE.cond_step (c := .tmp 14) (by kernel_rfl)
theorem n74_13s : codeB Try.prog E ⟨f, 58, b, ro⟩ n74_13 st = plainS (runOps Try.prog E b q74_13 (ops [true, false, false, true, true, false, false, false] Try.f74) st) := GE.region_step (id := 2) (GE.reg_of (by kernel_rfl)) (by kernel_rfl)
theorem n74_15s : codeB Try.prog E ⟨f, 58, b, ro⟩ n74_15 st = plainS (runOps Try.prog E b q74_15 (ops [true, false, false, true, true, false, false, true, false] Try.f74) st) := GE.region_step (id := 3) (GE.reg_of (by kernel_rfl)) (by kernel_rfl)
theorem n74_18s : codeB Try.prog E ⟨f, 58, b, ro⟩ n74_18 st = plainS (runOps Try.prog E b q74_18 (ops [true, false, false, true, true, false, false, true, true, false, false] Try.f74) st) := GE.region_step (id := 4) (GE.reg_of (by kernel_rfl)) (by kernel_rfl)
theorem n74_22s : codeB Try.prog E ⟨f, 58, b, ro⟩ n74_22 st = plainS (runOps Try.prog E b q74_22 (ops [true, false, false, true, true, false, false, true, true, false, true, false, false, false] Try.f74) st) := GE.region_step (id := 5) (GE.reg_of (by kernel_rfl)) (by kernel_rfl)
theorem n74_25s : codeB Try.prog E cx n74_25 st = some (.normal, st) := GE.skip_step (by kernel_rfl)
theorem n74_26s : codeB Try.prog LL ⟨74, 58, b, ro⟩ n74_26 st = normS b ⟨[10, 11, 0, 1, 2, 3, 4, 13], []⟩ (.exit 2) st := GE.exit_step (by kernel_rfl) (by kernel_rfl)
theorem n74_24s : codeB Try.prog E cx n74_24 st = condS (codeB Try.prog E cx n74_25) (codeB Try.prog E cx n74_26) (lk st.σ 17) st := GE.cond_step (c := .tmp 17) (by kernel_rfl)
theorem n74_30s : codeB Try.prog E ⟨f, 58, b, ro⟩ n74_30 st = plainS (runOps Try.prog E b q74_30 (ops [true, false, false, true, true, false, false, true, true, false, true, false, false, true, true, false, false, false] Try.f74) st) := GE.region_step (id := 6) (GE.reg_of (by kernel_rfl)) (by kernel_rfl)
theorem q74_31g1 : gd q74_31 1 = some 20 := by kernel_rfl
theorem q74_31g7 : gd q74_31 7 = some 26 := by kernel_rfl
theorem q74_31g9 : gd q74_31 9 = some 28 := by kernel_rfl
theorem q74_31g15 : gd q74_31 15 = some 34 := by kernel_rfl
theorem n74_31s : codeB Try.prog E ⟨f, 58, b, ro⟩ n74_31 st = plainS (runOps Try.prog E b q74_31 (ops [true, false, false, true, true, false, false, true, true, false, true, false, false, true, true, false, false, true] Try.f74) st) := GE.region_step (id := 7) (GE.reg_of (by kernel_rfl)) (by kernel_rfl)
theorem n74_29s : codeB Try.prog E cx n74_29 st = thenS (codeB Try.prog E cx n74_30 st) (codeB Try.prog E cx n74_31) := GE.seq_step (by kernel_rfl)
theorem n74_28s : codeB Try.prog E cx n74_28 st = blockS 3 (codeB Try.prog E cx n74_29 st) st := GE.block_step (by kernel_rfl)
theorem n74_32s : codeB Try.prog E ⟨f, 58, b, ro⟩ n74_32 st = plainS (runOps Try.prog E b q74_32 (ops [true, false, false, true, true, false, false, true, true, false, true, false, false, true, true, true] Try.f74) st) := GE.region_step (id := 8) (GE.reg_of (by kernel_rfl)) (by kernel_rfl)
theorem n74_27s : codeB Try.prog E cx n74_27 st = thenS (codeB Try.prog E cx n74_28 st) (codeB Try.prog E cx n74_32) := GE.seq_step (by kernel_rfl)
theorem n74_23s : codeB Try.prog E cx n74_23 st = thenS (codeB Try.prog E cx n74_24 st) (codeB Try.prog E cx n74_27) := GE.seq_step (by kernel_rfl)
theorem n74_21s : codeB Try.prog E cx n74_21 st = thenS (codeB Try.prog E cx n74_22 st) (codeB Try.prog E cx n74_23) := GE.seq_step (by kernel_rfl)
theorem n74_20k : LL.kp (⟨74, 58, b, ro⟩ : Cx).fn (4 * rid n74_21 + 3) = some ⟨[10, 11, 16, 0, 1, 2, 3, 4, 13], []⟩ := by kernel_rfl
theorem n74_20s : codeB Try.prog LL ⟨74, 58, b, ro⟩ n74_20 st = headS b ⟨[10, 11, 16, 0, 1, 2, 3, 4, 13], []⟩ st (lpB Try.prog LL ⟨74, 58, b, ro⟩ n74_20 n74_21) := GE.lpB_step (by kernel_rfl) (n74_20k b ro)
theorem n74_20g : LL.code ⟨74, 58, b, ro⟩ n74_20 st = headS b ⟨[10, 11, 16, 0, 1, 2, 3, 4, 13], []⟩ st (lpB Try.prog LL ⟨74, 58, b, ro⟩ n74_20 n74_21) := GE.lpB_again (by kernel_rfl) (n74_20k b ro)
theorem n74_19s : codeB Try.prog E cx n74_19 st = blockS 2 (codeB Try.prog E cx n74_20 st) st := GE.block_step (by kernel_rfl)
theorem n74_17s : codeB Try.prog E cx n74_17 st = thenS (codeB Try.prog E cx n74_18 st) (codeB Try.prog E cx n74_19) := GE.seq_step (by kernel_rfl)
theorem q74_33g7 : gd q74_33 7 = some 52 := by kernel_rfl
theorem n74_33s : codeB Try.prog E ⟨f, 58, b, ro⟩ n74_33 st = drawS [0, 0, 0, 0, 4, 28, 60, 124, 252, 508, 1, 2047, 4095] (runOpsF Try.prog E b q74_33 (ops [true, false, false, true, true, false, false, true, true, true] Try.f74) st) := GE.draw_step (id := 9) (GE.reg_of (by kernel_rfl)) (by kernel_rfl) (by kernel_rfl) (by kernel_rfl)
theorem n74_16s : codeB Try.prog E cx n74_16 st = thenS (codeB Try.prog E cx n74_17 st) (codeB Try.prog E cx n74_33) := GE.seq_step (by kernel_rfl)
theorem n74_14s : codeB Try.prog E cx n74_14 st = thenS (codeB Try.prog E cx n74_15 st) (codeB Try.prog E cx n74_16) := GE.seq_step (by kernel_rfl)
theorem n74_12s : codeB Try.prog E cx n74_12 st = thenS (codeB Try.prog E cx n74_13 st) (codeB Try.prog E cx n74_14) := GE.seq_step (by kernel_rfl)
theorem n74_11s : codeB Try.prog E cx n74_11 st = blockS 1 (codeB Try.prog E cx n74_12 st) st := GE.block_step (by kernel_rfl)
theorem n74_34s : codeB Try.prog E ⟨f, 58, b, ro⟩ n74_34 st = plainS (runOps Try.prog E b q74_34 (ops [true, false, false, true, true, true] Try.f74) st) := GE.region_step (id := 10) (GE.reg_of (by kernel_rfl)) (by kernel_rfl)
theorem n74_10s : codeB Try.prog E cx n74_10 st = thenS (codeB Try.prog E cx n74_11 st) (codeB Try.prog E cx n74_34) := GE.seq_step (by kernel_rfl)
theorem n74_6s : codeB Try.prog E cx n74_6 st = thenS (codeB Try.prog E cx n74_7 st) (codeB Try.prog E cx n74_10) := GE.seq_step (by kernel_rfl)
theorem n74_4s : codeB Try.prog E cx n74_4 st = thenS (codeB Try.prog E cx n74_5 st) (codeB Try.prog E cx n74_6) := GE.seq_step (by kernel_rfl)
theorem n74_3k : LL.kp (⟨74, 58, b, ro⟩ : Cx).fn (4 * rid n74_4 + 3) = some ⟨[0, 1, 2, 3, 4, 13], []⟩ := by kernel_rfl
theorem n74_3s : codeB Try.prog LL ⟨74, 58, b, ro⟩ n74_3 st = headS b ⟨[0, 1, 2, 3, 4, 13], []⟩ st (lpB Try.prog LL ⟨74, 58, b, ro⟩ n74_3 n74_4) := GE.lpB_step (by kernel_rfl) (n74_3k b ro)
theorem n74_3g : LL.code ⟨74, 58, b, ro⟩ n74_3 st = headS b ⟨[0, 1, 2, 3, 4, 13], []⟩ st (lpB Try.prog LL ⟨74, 58, b, ro⟩ n74_3 n74_4) := GE.lpB_again (by kernel_rfl) (n74_3k b ro)
theorem n74_2s : codeB Try.prog E cx n74_2 st = blockS 0 (codeB Try.prog E cx n74_3 st) st := GE.block_step (by kernel_rfl)
theorem n74_0s : codeB Try.prog E cx n74_0 st = thenS (codeB Try.prog E cx n74_1 st) (codeB Try.prog E cx n74_2) := GE.seq_step (by kernel_rfl)
noncomputable def n85_0 : Code := bodyOf Try.f85
noncomputable def n85_1 : Code := cl n85_0
noncomputable def q85_1 : List Oper := opsOf n85_1
noncomputable def n85_2 : Code := cr n85_0
noncomputable def n85_3 : Code := cl n85_2
noncomputable def n85_4 : Code := cl n85_3
noncomputable def q85_4 : List Oper := opsOf n85_4
noncomputable def n85_5 : Code := cr n85_3
noncomputable def n85_6 : Code := cl n85_5
noncomputable def q85_6 : List Oper := opsOf n85_6
noncomputable def n85_7 : Code := cr n85_5
noncomputable def n85_8 : Code := cl n85_7
noncomputable def n85_9 : Code := cl n85_8
noncomputable def q85_9 : List Oper := opsOf n85_9
noncomputable def n85_10 : Code := cr n85_8
noncomputable def n85_11 : Code := cr n85_7
noncomputable def n85_12 : Code := cr n85_2
noncomputable def n85_13 : Code := cl n85_12
noncomputable def q85_13 : List Oper := opsOf n85_13
noncomputable def n85_14 : Code := cr n85_12
noncomputable def n85_15 : Code := cl n85_14
noncomputable def q85_15 : List Oper := opsOf n85_15
noncomputable def n85_16 : Code := cr n85_14
theorem body85 : Try.f85.body = some n85_0 := by kernel_rfl
theorem run85 (E : Ev) (args : List Value) (h : List Blk) (hl : args.length ≤ 53) : runB Try.prog E 85 args h = endS Try.prog [.cell 6 57] h.length (codeB Try.prog E ⟨85, 53, h.length, none⟩ n85_0 ⟨enumT 0 args, h, []⟩) := GE.run_step Try.func85 body85 (by kernel_rfl) (by decide) (by kernel_rfl) hl
theorem n85_1s : codeB Try.prog E ⟨f, 53, b, ro⟩ n85_1 st = plainS (runOps Try.prog E b q85_1 (ops [false] Try.f85) st) := GE.region_step (id := 0) (GE.reg_of (by kernel_rfl)) (by kernel_rfl)
theorem n85_4s : codeB Try.prog E ⟨f, 53, b, ro⟩ n85_4 st = plainS (runOps Try.prog E b q85_4 (ops [true, false, false] Try.f85) st) := GE.region_step (id := 1) (GE.reg_of (by kernel_rfl)) (by kernel_rfl)
theorem n85_6s : codeB Try.prog E ⟨f, 53, b, ro⟩ n85_6 st = plainS (runOps Try.prog E b q85_6 (ops [true, false, true, false] Try.f85) st) := GE.region_step (id := 2) (GE.reg_of (by kernel_rfl)) (by kernel_rfl)
theorem n85_9s : codeB Try.prog E ⟨f, 53, b, ro⟩ n85_9 st = plainS (runOps Try.prog E b q85_9 (ops [true, false, true, true, false, false] Try.f85) st) := GE.region_step (id := 3) (GE.reg_of (by kernel_rfl)) (by kernel_rfl)
theorem n85_10s : codeB Try.prog LL ⟨85, 53, b, ro⟩ n85_10 st = normS b ⟨[6], []⟩ .ret st := GE.ret_step (by kernel_rfl) (by kernel_rfl)
theorem n85_8s : codeB Try.prog E cx n85_8 st = thenS (codeB Try.prog E cx n85_9 st) (codeB Try.prog E cx n85_10) := GE.seq_step (by kernel_rfl)
theorem n85_11s : codeB Try.prog E cx n85_11 st = some (.normal, st) := GE.skip_step (by kernel_rfl)
theorem n85_7s : codeB Try.prog E cx n85_7 st = condS (codeB Try.prog E cx n85_8) (codeB Try.prog E cx n85_11) (lk st.σ 14) st := GE.cond_step (c := .tmp 14) (by kernel_rfl)
theorem n85_5s : codeB Try.prog E cx n85_5 st = thenS (codeB Try.prog E cx n85_6 st) (codeB Try.prog E cx n85_7) := GE.seq_step (by kernel_rfl)
theorem n85_3s : codeB Try.prog E cx n85_3 st = thenS (codeB Try.prog E cx n85_4 st) (codeB Try.prog E cx n85_5) := GE.seq_step (by kernel_rfl)
theorem n85_13s : codeB Try.prog E ⟨f, 53, b, ro⟩ n85_13 st = plainS (runOps Try.prog E b q85_13 (ops [true, true, false] Try.f85) st) := GE.region_step (id := 4) (GE.reg_of (by kernel_rfl)) (by kernel_rfl)
theorem n85_15s : codeB Try.prog E ⟨f, 53, b, ro⟩ n85_15 st = plainS (runOps Try.prog E b q85_15 (ops [true, true, true, false] Try.f85) st) := GE.region_step (id := 5) (GE.reg_of (by kernel_rfl)) (by kernel_rfl)
theorem n85_16s : codeB Try.prog LL ⟨85, 53, b, ro⟩ n85_16 st = normS b ⟨[6], []⟩ .ret st := GE.ret_step (by kernel_rfl) (by kernel_rfl)
theorem n85_14s : codeB Try.prog E cx n85_14 st = thenS (codeB Try.prog E cx n85_15 st) (codeB Try.prog E cx n85_16) := GE.seq_step (by kernel_rfl)
theorem n85_12s : codeB Try.prog E cx n85_12 st = thenS (codeB Try.prog E cx n85_13 st) (codeB Try.prog E cx n85_14) := GE.seq_step (by kernel_rfl)
theorem n85_2s : codeB Try.prog E cx n85_2 st = thenS (codeB Try.prog E cx n85_3 st) (codeB Try.prog E cx n85_12) := GE.seq_step (by kernel_rfl)
theorem n85_0s : codeB Try.prog E cx n85_0 st = thenS (codeB Try.prog E cx n85_1 st) (codeB Try.prog E cx n85_2) := GE.seq_step (by kernel_rfl)
noncomputable def n86_0 : Code := bodyOf Try.f86
noncomputable def n86_1 : Code := cl n86_0
noncomputable def q86_1 : List Oper := opsOf n86_1
noncomputable def n86_2 : Code := cr n86_0
noncomputable def n86_3 : Code := cl n86_2
noncomputable def n86_4 : Code := cl n86_3
noncomputable def q86_4 : List Oper := opsOf n86_4
noncomputable def n86_5 : Code := cr n86_3
noncomputable def n86_6 : Code := cl n86_5
noncomputable def q86_6 : List Oper := opsOf n86_6
noncomputable def n86_7 : Code := cr n86_5
noncomputable def n86_8 : Code := cr n86_2
noncomputable def q86_8 : List Oper := opsOf n86_8
theorem body86 : Try.f86.body = some n86_0 := by kernel_rfl
theorem run86 (E : Ev) (args : List Value) (h : List Blk) (hl : args.length ≤ 32) : runB Try.prog E 86 args h = endS Try.prog [] h.length (codeB Try.prog E ⟨86, 32, h.length, none⟩ n86_0 ⟨enumT 0 args, h, []⟩) := GE.run_step Try.func86 body86 (by kernel_rfl) (by decide) (by kernel_rfl) hl
theorem n86_1s : codeB Try.prog E ⟨f, 32, b, ro⟩ n86_1 st = plainS (runOps Try.prog E b q86_1 (ops [false] Try.f86) st) := GE.region_step (id := 0) (GE.reg_of (by kernel_rfl)) (by kernel_rfl)
theorem n86_4s : codeB Try.prog E ⟨f, 32, b, ro⟩ n86_4 st = plainS (runOps Try.prog E b q86_4 (ops [true, false, false] Try.f86) st) := GE.region_step (id := 1) (GE.reg_of (by kernel_rfl)) (by kernel_rfl)
theorem n86_6s : codeB Try.prog E ⟨f, 32, b, ro⟩ n86_6 st = drawS [0, 1, 3, 7, 15, 0, 32, 127, 0, 256, 768, 1792, 3840, 0, 8192, 32512, 65535, 131071] (runOpsF Try.prog E b q86_6 (ops [true, false, true, false] Try.f86) st) := GE.draw_step (id := 2) (GE.reg_of (by kernel_rfl)) (by kernel_rfl) (by kernel_rfl) (by kernel_rfl)
theorem n86_7s : codeB Try.prog E cx n86_7 st = some (.normal, st) := GE.skip_step (by kernel_rfl)
theorem n86_5s : codeB Try.prog E cx n86_5 st = condS (codeB Try.prog E cx n86_6) (codeB Try.prog E cx n86_7) (lk st.σ 7) st := GE.cond_step (c := .tmp 7) (by kernel_rfl)
theorem n86_3s : codeB Try.prog E cx n86_3 st = thenS (codeB Try.prog E cx n86_4 st) (codeB Try.prog E cx n86_5) := GE.seq_step (by kernel_rfl)
theorem n86_8s : codeB Try.prog E ⟨f, 32, b, ro⟩ n86_8 st = plainS (runOps Try.prog E b q86_8 (ops [true, true] Try.f86) st) := GE.region_step (id := 3) (GE.reg_of (by kernel_rfl)) (by kernel_rfl)
theorem n86_2s : codeB Try.prog E cx n86_2 st = thenS (codeB Try.prog E cx n86_3 st) (codeB Try.prog E cx n86_8) := GE.seq_step (by kernel_rfl)
theorem n86_0s : codeB Try.prog E cx n86_0 st = thenS (codeB Try.prog E cx n86_1 st) (codeB Try.prog E cx n86_2) := GE.seq_step (by kernel_rfl)
noncomputable def n87_0 : Code := bodyOf Try.f87
noncomputable def n87_1 : Code := cl n87_0
noncomputable def q87_1 : List Oper := opsOf n87_1
noncomputable def n87_2 : Code := cr n87_0
noncomputable def n87_3 : Code := cl n87_2
noncomputable def q87_3 : List Oper := opsOf n87_3
noncomputable def n87_4 : Code := cr n87_2
theorem body87 : Try.f87.body = some n87_0 := by kernel_rfl
theorem run87 (E : Ev) (args : List Value) (h : List Blk) (hl : args.length ≤ 6) : runB Try.prog E 87 args h = endS Try.prog [.tmp 4] h.length (codeB Try.prog E ⟨87, 6, h.length, none⟩ n87_0 ⟨enumT 0 args, h, []⟩) := GE.run_step Try.func87 body87 (by kernel_rfl) (by decide) (by kernel_rfl) hl
theorem n87_1s : codeB Try.prog E ⟨f, 6, b, ro⟩ n87_1 st = plainS (runOps Try.prog E b q87_1 (ops [false] Try.f87) st) := GE.region_step (id := 0) (GE.reg_of (by kernel_rfl)) (by kernel_rfl)
theorem n87_3s : codeB Try.prog E ⟨f, 6, b, ro⟩ n87_3 st = plainS (runOps Try.prog E b q87_3 (ops [true, false] Try.f87) st) := GE.region_step (id := 1) (GE.reg_of (by kernel_rfl)) (by kernel_rfl)
theorem n87_4s : codeB Try.prog LL ⟨87, 6, b, ro⟩ n87_4 st = normS b ⟨[4], []⟩ .ret st := GE.ret_step (by kernel_rfl) (by kernel_rfl)
theorem n87_2s : codeB Try.prog E cx n87_2 st = thenS (codeB Try.prog E cx n87_3 st) (codeB Try.prog E cx n87_4) := GE.seq_step (by kernel_rfl)
theorem n87_0s : codeB Try.prog E cx n87_0 st = thenS (codeB Try.prog E cx n87_1 st) (codeB Try.prog E cx n87_2) := GE.seq_step (by kernel_rfl)
noncomputable def n88_0 : Code := bodyOf Try.f88
noncomputable def n88_1 : Code := cl n88_0
noncomputable def q88_1 : List Oper := opsOf n88_1
noncomputable def n88_2 : Code := cr n88_0
noncomputable def n88_3 : Code := cl n88_2
noncomputable def q88_3 : List Oper := opsOf n88_3
noncomputable def n88_4 : Code := cr n88_2
noncomputable def n88_5 : Code := cl n88_4
noncomputable def q88_5 : List Oper := opsOf n88_5
noncomputable def n88_6 : Code := cr n88_4
theorem body88 : Try.f88.body = some n88_0 := by kernel_rfl
theorem run88 (E : Ev) (args : List Value) (h : List Blk) (hl : args.length ≤ 15) : runB Try.prog E 88 args h = endS Try.prog [.tmp 4] h.length (codeB Try.prog E ⟨88, 15, h.length, none⟩ n88_0 ⟨enumT 0 args, h, []⟩) := GE.run_step Try.func88 body88 (by kernel_rfl) (by decide) (by kernel_rfl) hl
theorem n88_1s : codeB Try.prog E ⟨f, 15, b, ro⟩ n88_1 st = plainS (runOps Try.prog E b q88_1 (ops [false] Try.f88) st) := GE.region_step (id := 0) (GE.reg_of (by kernel_rfl)) (by kernel_rfl)
theorem n88_3s : codeB Try.prog E ⟨f, 15, b, ro⟩ n88_3 st = plainS (runOps Try.prog E b q88_3 (ops [true, false] Try.f88) st) := GE.region_step (id := 1) (GE.reg_of (by kernel_rfl)) (by kernel_rfl)
theorem n88_5s : codeB Try.prog E ⟨f, 15, b, ro⟩ n88_5 st = plainS (runOps Try.prog E b q88_5 (ops [true, true, false] Try.f88) st) := GE.region_step (id := 2) (GE.reg_of (by kernel_rfl)) (by kernel_rfl)
theorem n88_6s : codeB Try.prog LL ⟨88, 15, b, ro⟩ n88_6 st = normS b ⟨[4], []⟩ .ret st := GE.ret_step (by kernel_rfl) (by kernel_rfl)
theorem n88_4s : codeB Try.prog E cx n88_4 st = thenS (codeB Try.prog E cx n88_5 st) (codeB Try.prog E cx n88_6) := GE.seq_step (by kernel_rfl)
theorem n88_2s : codeB Try.prog E cx n88_2 st = thenS (codeB Try.prog E cx n88_3 st) (codeB Try.prog E cx n88_4) := GE.seq_step (by kernel_rfl)
theorem n88_0s : codeB Try.prog E cx n88_0 st = thenS (codeB Try.prog E cx n88_1 st) (codeB Try.prog E cx n88_2) := GE.seq_step (by kernel_rfl)
noncomputable def n103_0 : Code := bodyOf Try.f103
noncomputable def n103_1 : Code := cl n103_0
noncomputable def q103_1 : List Oper := opsOf n103_1
noncomputable def n103_2 : Code := cr n103_0
noncomputable def n103_3 : Code := cl n103_2
noncomputable def n103_4 : Code := cl n103_3
noncomputable def n103_5 : Code := cl n103_4
noncomputable def q103_5 : List Oper := opsOf n103_5
noncomputable def n103_6 : Code := cr n103_4
noncomputable def n103_7 : Code := cl n103_6
noncomputable def n103_8 : Code := cl n103_7
noncomputable def n103_9 : Code := cr n103_7
noncomputable def n103_10 : Code := cr n103_6
noncomputable def n103_11 : Code := cl n103_10
noncomputable def n103_12 : Code := cl n103_11
noncomputable def n103_13 : Code := cl n103_12
noncomputable def q103_13 : List Oper := opsOf n103_13
noncomputable def n103_14 : Code := cr n103_12
noncomputable def n103_15 : Code := cl n103_14
noncomputable def q103_15 : List Oper := opsOf n103_15
noncomputable def n103_16 : Code := cr n103_14
noncomputable def n103_17 : Code := cl n103_16
noncomputable def n103_18 : Code := cr n103_16
noncomputable def n103_19 : Code := cr n103_10
noncomputable def q103_19 : List Oper := opsOf n103_19
theorem body103 : Try.f103.body = some n103_0 := by kernel_rfl
theorem run103 (E : Ev) (args : List Value) (h : List Blk) (hl : args.length ≤ 29) : runB Try.prog E 103 args h = endS Try.prog [] h.length (codeB Try.prog E ⟨103, 29, h.length, none⟩ n103_0 ⟨enumT 0 args, h, []⟩) := GE.run_step Try.func103 body103 (by kernel_rfl) (by decide) (by kernel_rfl) hl
theorem n103_1s : codeB Try.prog E ⟨f, 29, b, ro⟩ n103_1 st = plainS (runOps Try.prog E b q103_1 (ops [false] Try.f103) st) := GE.region_step (id := 0) (GE.reg_of (by kernel_rfl)) (by kernel_rfl)
theorem n103_5s : codeB Try.prog E ⟨f, 29, b, ro⟩ n103_5 st = plainS (runOps Try.prog E b q103_5 (ops [true, false, false, false] Try.f103) st) := GE.region_step (id := 1) (GE.reg_of (by kernel_rfl)) (by kernel_rfl)
theorem n103_8s : codeB Try.prog E cx n103_8 st = some (.normal, st) := GE.skip_step (by kernel_rfl)
theorem n103_9s : codeB Try.prog LL ⟨103, 29, b, ro⟩ n103_9 st = normS b ⟨[], []⟩ (.exit 0) st := GE.exit_step (by kernel_rfl) (by kernel_rfl)
theorem n103_7s : codeB Try.prog E cx n103_7 st = condS (codeB Try.prog E cx n103_8) (codeB Try.prog E cx n103_9) (lk st.σ 11) st := GE.cond_step (c := .tmp 11) (by kernel_rfl)
theorem n103_13s : codeB Try.prog E ⟨f, 29, b, ro⟩ n103_13 st = plainS (runOps Try.prog E b q103_13 (ops [true, false, false, true, true, false, false, false] Try.f103) st) := GE.region_step (id := 2) (GE.reg_of (by kernel_rfl)) (by kernel_rfl)
theorem q103_15g6 : gd q103_15 6 = some 21 := by kernel_rfl
theorem n103_15s : codeB Try.prog E ⟨f, 29, b, ro⟩ n103_15 st = drawS [0, 0, 2, 7, 0, 31, 63, 127, 127, 127, 1023, 2047, 4095] (runOpsF Try.prog E b q103_15 (ops [true, false, false, true, true, false, false, true, false] Try.f103) st) := GE.draw_step (id := 3) (GE.reg_of (by kernel_rfl)) (by kernel_rfl) (by kernel_rfl) (by kernel_rfl)
theorem n103_17s : codeB Try.prog LL ⟨103, 29, b, ro⟩ n103_17 st = normS b ⟨[], []⟩ .ret st := GE.ret_step (by kernel_rfl) (by kernel_rfl)
theorem n103_18s : codeB Try.prog E cx n103_18 st = some (.normal, st) := GE.skip_step (by kernel_rfl)
theorem n103_16s : codeB Try.prog E cx n103_16 st = condS (codeB Try.prog E cx n103_17) (codeB Try.prog E cx n103_18) (lk st.σ 27) st := GE.cond_step (c := .tmp 27) (by kernel_rfl)
theorem n103_14s : codeB Try.prog E cx n103_14 st = thenS (codeB Try.prog E cx n103_15 st) (codeB Try.prog E cx n103_16) := GE.seq_step (by kernel_rfl)
theorem n103_12s : codeB Try.prog E cx n103_12 st = thenS (codeB Try.prog E cx n103_13 st) (codeB Try.prog E cx n103_14) := GE.seq_step (by kernel_rfl)
theorem n103_11s : codeB Try.prog E cx n103_11 st = blockS 1 (codeB Try.prog E cx n103_12 st) st := GE.block_step (by kernel_rfl)
theorem n103_19s : codeB Try.prog E ⟨f, 29, b, ro⟩ n103_19 st = plainS (runOps Try.prog E b q103_19 (ops [true, false, false, true, true, true] Try.f103) st) := GE.region_step (id := 4) (GE.reg_of (by kernel_rfl)) (by kernel_rfl)
theorem n103_10s : codeB Try.prog E cx n103_10 st = thenS (codeB Try.prog E cx n103_11 st) (codeB Try.prog E cx n103_19) := GE.seq_step (by kernel_rfl)
theorem n103_6s : codeB Try.prog E cx n103_6 st = thenS (codeB Try.prog E cx n103_7 st) (codeB Try.prog E cx n103_10) := GE.seq_step (by kernel_rfl)
theorem n103_4s : codeB Try.prog E cx n103_4 st = thenS (codeB Try.prog E cx n103_5 st) (codeB Try.prog E cx n103_6) := GE.seq_step (by kernel_rfl)
theorem n103_3k : LL.kp (⟨103, 29, b, ro⟩ : Cx).fn (4 * rid n103_4 + 3) = some ⟨[0, 1, 2, 8, 9, 10], [⟨8, 0, 3, true⟩]⟩ := by kernel_rfl
theorem n103_3s : codeB Try.prog LL ⟨103, 29, b, ro⟩ n103_3 st = headS b ⟨[0, 1, 2, 8, 9, 10], [⟨8, 0, 3, true⟩]⟩ st (lpB Try.prog LL ⟨103, 29, b, ro⟩ n103_3 n103_4) := GE.lpB_step (by kernel_rfl) (n103_3k b ro)
theorem n103_3g : LL.code ⟨103, 29, b, ro⟩ n103_3 st = headS b ⟨[0, 1, 2, 8, 9, 10], [⟨8, 0, 3, true⟩]⟩ st (lpB Try.prog LL ⟨103, 29, b, ro⟩ n103_3 n103_4) := GE.lpB_again (by kernel_rfl) (n103_3k b ro)
theorem n103_2s : codeB Try.prog E cx n103_2 st = blockS 0 (codeB Try.prog E cx n103_3 st) st := GE.block_step (by kernel_rfl)
theorem n103_0s : codeB Try.prog E cx n103_0 st = thenS (codeB Try.prog E cx n103_1 st) (codeB Try.prog E cx n103_2) := GE.seq_step (by kernel_rfl)
noncomputable def n104_0 : Code := bodyOf Try.f104
noncomputable def n104_1 : Code := cl n104_0
noncomputable def q104_1 : List Oper := opsOf n104_1
noncomputable def n104_2 : Code := cr n104_0
noncomputable def n104_3 : Code := cl n104_2
noncomputable def q104_3 : List Oper := opsOf n104_3
noncomputable def n104_4 : Code := cr n104_2
noncomputable def n104_5 : Code := cl n104_4
noncomputable def q104_5 : List Oper := opsOf n104_5
noncomputable def n104_6 : Code := cr n104_4
noncomputable def n104_7 : Code := cl n104_6
noncomputable def n104_8 : Code := cl n104_7
noncomputable def n104_9 : Code := cl n104_8
noncomputable def n104_10 : Code := cl n104_9
noncomputable def n104_11 : Code := cl n104_10
noncomputable def q104_11 : List Oper := opsOf n104_11
noncomputable def n104_12 : Code := cr n104_10
noncomputable def n104_13 : Code := cl n104_12
noncomputable def n104_14 : Code := cr n104_12
noncomputable def n104_15 : Code := cr n104_9
noncomputable def n104_16 : Code := cl n104_15
noncomputable def n104_17 : Code := cl n104_16
noncomputable def q104_17 : List Oper := opsOf n104_17
noncomputable def n104_18 : Code := cr n104_16
noncomputable def n104_19 : Code := cl n104_18
noncomputable def q104_19 : List Oper := opsOf n104_19
noncomputable def n104_20 : Code := cr n104_18
noncomputable def n104_21 : Code := cl n104_20
noncomputable def q104_21 : List Oper := opsOf n104_21
noncomputable def n104_22 : Code := cr n104_20
noncomputable def q104_22 : List Oper := opsOf n104_22
noncomputable def n104_23 : Code := cr n104_6
noncomputable def n104_24 : Code := cl n104_23
noncomputable def q104_24 : List Oper := opsOf n104_24
noncomputable def n104_25 : Code := cr n104_23
theorem body104 : Try.f104.body = some n104_0 := by kernel_rfl
theorem run104 (E : Ev) (args : List Value) (h : List Blk) (hl : args.length ≤ 54) : runB Try.prog E 104 args h = endS Try.prog [.tmp 4, .tmp 5] h.length (codeB Try.prog E ⟨104, 54, h.length, none⟩ n104_0 ⟨enumT 0 args, h, []⟩) := GE.run_step Try.func104 body104 (by kernel_rfl) (by decide) (by kernel_rfl) hl
theorem n104_1s : codeB Try.prog E ⟨f, 54, b, ro⟩ n104_1 st = plainS (runOps Try.prog E b q104_1 (ops [false] Try.f104) st) := GE.region_step (id := 0) (GE.reg_of (by kernel_rfl)) (by kernel_rfl)
theorem n104_3s : codeB Try.prog E ⟨f, 54, b, ro⟩ n104_3 st = plainS (runOps Try.prog E b q104_3 (ops [true, false] Try.f104) st) := GE.region_step (id := 1) (GE.reg_of (by kernel_rfl)) (by kernel_rfl)
theorem n104_5s : codeB Try.prog E ⟨f, 54, b, ro⟩ n104_5 st = plainS (runOps Try.prog E b q104_5 (ops [true, true, false] Try.f104) st) := GE.region_step (id := 2) (GE.reg_of (by kernel_rfl)) (by kernel_rfl)
theorem n104_11s : codeB Try.prog E ⟨f, 54, b, ro⟩ n104_11 st = plainS (runOps Try.prog E b q104_11 (ops [true, true, true, false, false, false, false, false] Try.f104) st) := GE.region_step (id := 3) (GE.reg_of (by kernel_rfl)) (by kernel_rfl)
theorem n104_13s : codeB Try.prog E cx n104_13 st = some (.normal, st) := GE.skip_step (by kernel_rfl)
theorem n104_14s : codeB Try.prog LL ⟨104, 54, b, ro⟩ n104_14 st = normS b ⟨[0, 1, 6, 7], [⟨0, 0, 1, true⟩]⟩ (.exit 0) st := GE.exit_step (by kernel_rfl) (by kernel_rfl)
theorem n104_12s : codeB Try.prog E cx n104_12 st = condS (codeB Try.prog E cx n104_13) (codeB Try.prog E cx n104_14) (lk st.σ 15) st := GE.cond_step (c := .tmp 15) (by kernel_rfl)
theorem n104_10s : codeB Try.prog E cx n104_10 st = thenS (codeB Try.prog E cx n104_11 st) (codeB Try.prog E cx n104_12) := GE.seq_step (by kernel_rfl)
theorem n104_17s : codeB Try.prog E ⟨f, 54, b, ro⟩ n104_17 st = plainS (runOps Try.prog E b q104_17 (ops [true, true, true, false, false, false, true, false, false] Try.f104) st) := GE.region_step (id := 4) (GE.reg_of (by kernel_rfl)) (by kernel_rfl)
theorem n104_19s : codeB Try.prog E ⟨f, 54, b, ro⟩ n104_19 st = plainS (runOps Try.prog E b q104_19 (ops [true, true, true, false, false, false, true, false, true, false] Try.f104) st) := GE.region_step (id := 5) (GE.reg_of (by kernel_rfl)) (by kernel_rfl)
theorem n104_21s : codeB Try.prog E ⟨f, 54, b, ro⟩ n104_21 st = plainS (runOps Try.prog E b q104_21 (ops [true, true, true, false, false, false, true, false, true, true, false] Try.f104) st) := GE.region_step (id := 6) (GE.reg_of (by kernel_rfl)) (by kernel_rfl)
theorem n104_22s : codeB Try.prog E ⟨f, 54, b, ro⟩ n104_22 st = plainS (runOps Try.prog E b q104_22 (ops [true, true, true, false, false, false, true, false, true, true, true] Try.f104) st) := GE.region_step (id := 7) (GE.reg_of (by kernel_rfl)) (by kernel_rfl)
theorem n104_20s : codeB Try.prog E cx n104_20 st = condS (codeB Try.prog E cx n104_21) (codeB Try.prog E cx n104_22) (lk st.σ 27) st := GE.cond_step (c := .tmp 27) (by kernel_rfl)
theorem n104_18s : codeB Try.prog E cx n104_18 st = thenS (codeB Try.prog E cx n104_19 st) (codeB Try.prog E cx n104_20) := GE.seq_step (by kernel_rfl)
theorem n104_16s : codeB Try.prog E cx n104_16 st = thenS (codeB Try.prog E cx n104_17 st) (codeB Try.prog E cx n104_18) := GE.seq_step (by kernel_rfl)
theorem n104_15s : codeB Try.prog E cx n104_15 st = blockS 1 (codeB Try.prog E cx n104_16 st) st := GE.block_step (by kernel_rfl)
theorem n104_9s : codeB Try.prog E cx n104_9 st = thenS (codeB Try.prog E cx n104_10 st) (codeB Try.prog E cx n104_15) := GE.seq_step (by kernel_rfl)
theorem n104_8k : LL.kp (⟨104, 54, b, ro⟩ : Cx).fn (4 * rid n104_9 + 3) = some ⟨[0, 1, 6, 7, 8], [⟨0, 0, 1, true⟩]⟩ := by kernel_rfl
theorem n104_8s : codeB Try.prog LL ⟨104, 54, b, ro⟩ n104_8 st = headS b ⟨[0, 1, 6, 7, 8], [⟨0, 0, 1, true⟩]⟩ st (lpB Try.prog LL ⟨104, 54, b, ro⟩ n104_8 n104_9) := GE.lpB_step (by kernel_rfl) (n104_8k b ro)
theorem n104_8g : LL.code ⟨104, 54, b, ro⟩ n104_8 st = headS b ⟨[0, 1, 6, 7, 8], [⟨0, 0, 1, true⟩]⟩ st (lpB Try.prog LL ⟨104, 54, b, ro⟩ n104_8 n104_9) := GE.lpB_again (by kernel_rfl) (n104_8k b ro)
theorem n104_7s : codeB Try.prog E cx n104_7 st = blockS 0 (codeB Try.prog E cx n104_8 st) st := GE.block_step (by kernel_rfl)
theorem q104_24g4 : gd q104_24 4 = some 35 := by kernel_rfl
theorem q104_24g11 : gd q104_24 11 = some 42 := by kernel_rfl
theorem q104_24g17 : gd q104_24 17 = some 48 := by kernel_rfl
theorem n104_24s : codeB Try.prog E ⟨f, 54, b, ro⟩ n104_24 st = plainS (runOps Try.prog E b q104_24 (ops [true, true, true, true, false] Try.f104) st) := GE.region_step (id := 8) (GE.reg_of (by kernel_rfl)) (by kernel_rfl)
theorem n104_25s : codeB Try.prog LL ⟨104, 54, b, ro⟩ n104_25 st = normS b ⟨[4, 5], []⟩ .ret st := GE.ret_step (by kernel_rfl) (by kernel_rfl)
theorem n104_23s : codeB Try.prog E cx n104_23 st = thenS (codeB Try.prog E cx n104_24 st) (codeB Try.prog E cx n104_25) := GE.seq_step (by kernel_rfl)
theorem n104_6s : codeB Try.prog E cx n104_6 st = thenS (codeB Try.prog E cx n104_7 st) (codeB Try.prog E cx n104_23) := GE.seq_step (by kernel_rfl)
theorem n104_4s : codeB Try.prog E cx n104_4 st = thenS (codeB Try.prog E cx n104_5 st) (codeB Try.prog E cx n104_6) := GE.seq_step (by kernel_rfl)
theorem n104_2s : codeB Try.prog E cx n104_2 st = thenS (codeB Try.prog E cx n104_3 st) (codeB Try.prog E cx n104_4) := GE.seq_step (by kernel_rfl)
theorem n104_0s : codeB Try.prog E cx n104_0 st = thenS (codeB Try.prog E cx n104_1 st) (codeB Try.prog E cx n104_2) := GE.seq_step (by kernel_rfl)
noncomputable def n108_0 : Code := bodyOf Try.f108
noncomputable def n108_1 : Code := cl n108_0
noncomputable def q108_1 : List Oper := opsOf n108_1
noncomputable def n108_2 : Code := cr n108_0
noncomputable def n108_3 : Code := cl n108_2
noncomputable def q108_3 : List Oper := opsOf n108_3
noncomputable def n108_4 : Code := cr n108_2
theorem body108 : Try.f108.body = some n108_0 := by kernel_rfl
theorem run108 (E : Ev) (args : List Value) (h : List Blk) (hl : args.length ≤ 17) : runB Try.prog E 108 args h = endS Try.prog [.tmp 4] h.length (codeB Try.prog E ⟨108, 17, h.length, none⟩ n108_0 ⟨enumT 0 args, h, []⟩) := GE.run_step Try.func108 body108 (by kernel_rfl) (by decide) (by kernel_rfl) hl
theorem n108_1s : codeB Try.prog E ⟨f, 17, b, ro⟩ n108_1 st = plainS (runOps Try.prog E b q108_1 (ops [false] Try.f108) st) := GE.region_step (id := 0) (GE.reg_of (by kernel_rfl)) (by kernel_rfl)
theorem q108_3g2 : gd q108_3 2 = some 7 := by kernel_rfl
theorem q108_3g7 : gd q108_3 7 = some 12 := by kernel_rfl
theorem n108_3s : codeB Try.prog E ⟨f, 17, b, ro⟩ n108_3 st = plainS (runOps Try.prog E b q108_3 (ops [true, false] Try.f108) st) := GE.region_step (id := 1) (GE.reg_of (by kernel_rfl)) (by kernel_rfl)
theorem n108_4s : codeB Try.prog LL ⟨108, 17, b, ro⟩ n108_4 st = normS b ⟨[4], []⟩ .ret st := GE.ret_step (by kernel_rfl) (by kernel_rfl)
theorem n108_2s : codeB Try.prog E cx n108_2 st = thenS (codeB Try.prog E cx n108_3 st) (codeB Try.prog E cx n108_4) := GE.seq_step (by kernel_rfl)
theorem n108_0s : codeB Try.prog E cx n108_0 st = thenS (codeB Try.prog E cx n108_1 st) (codeB Try.prog E cx n108_2) := GE.seq_step (by kernel_rfl)
noncomputable def n109_0 : Code := bodyOf Try.f109
noncomputable def n109_1 : Code := cl n109_0
noncomputable def q109_1 : List Oper := opsOf n109_1
noncomputable def n109_2 : Code := cr n109_0
noncomputable def n109_3 : Code := cl n109_2
noncomputable def q109_3 : List Oper := opsOf n109_3
noncomputable def n109_4 : Code := cr n109_2
theorem body109 : Try.f109.body = some n109_0 := by kernel_rfl
theorem run109 (E : Ev) (args : List Value) (h : List Blk) (hl : args.length ≤ 6) : runB Try.prog E 109 args h = endS Try.prog [.tmp 2] h.length (codeB Try.prog E ⟨109, 6, h.length, none⟩ n109_0 ⟨enumT 0 args, h, []⟩) := GE.run_step Try.func109 body109 (by kernel_rfl) (by decide) (by kernel_rfl) hl
theorem n109_1s : codeB Try.prog E ⟨f, 6, b, ro⟩ n109_1 st = plainS (runOps Try.prog E b q109_1 (ops [false] Try.f109) st) := GE.region_step (id := 0) (GE.reg_of (by kernel_rfl)) (by kernel_rfl)
theorem n109_3s : codeB Try.prog E ⟨f, 6, b, ro⟩ n109_3 st = plainS (runOps Try.prog E b q109_3 (ops [true, false] Try.f109) st) := GE.region_step (id := 1) (GE.reg_of (by kernel_rfl)) (by kernel_rfl)
theorem n109_4s : codeB Try.prog LL ⟨109, 6, b, ro⟩ n109_4 st = normS b ⟨[2], []⟩ .ret st := GE.ret_step (by kernel_rfl) (by kernel_rfl)
theorem n109_2s : codeB Try.prog E cx n109_2 st = thenS (codeB Try.prog E cx n109_3 st) (codeB Try.prog E cx n109_4) := GE.seq_step (by kernel_rfl)
theorem n109_0s : codeB Try.prog E cx n109_0 st = thenS (codeB Try.prog E cx n109_1 st) (codeB Try.prog E cx n109_2) := GE.seq_step (by kernel_rfl)
noncomputable def n111_0 : Code := bodyOf Try.f111
noncomputable def n111_1 : Code := cl n111_0
noncomputable def q111_1 : List Oper := opsOf n111_1
noncomputable def n111_2 : Code := cr n111_0
noncomputable def n111_3 : Code := cl n111_2
noncomputable def q111_3 : List Oper := opsOf n111_3
noncomputable def n111_4 : Code := cr n111_2
theorem body111 : Try.f111.body = some n111_0 := by kernel_rfl
theorem run111 (E : Ev) (args : List Value) (h : List Blk) (hl : args.length ≤ 6) : runB Try.prog E 111 args h = endS Try.prog [.tmp 2] h.length (codeB Try.prog E ⟨111, 6, h.length, none⟩ n111_0 ⟨enumT 0 args, h, []⟩) := GE.run_step Try.func111 body111 (by kernel_rfl) (by decide) (by kernel_rfl) hl
theorem n111_1s : codeB Try.prog E ⟨f, 6, b, ro⟩ n111_1 st = plainS (runOps Try.prog E b q111_1 (ops [false] Try.f111) st) := GE.region_step (id := 0) (GE.reg_of (by kernel_rfl)) (by kernel_rfl)
theorem n111_3s : codeB Try.prog E ⟨f, 6, b, ro⟩ n111_3 st = plainS (runOps Try.prog E b q111_3 (ops [true, false] Try.f111) st) := GE.region_step (id := 1) (GE.reg_of (by kernel_rfl)) (by kernel_rfl)
theorem n111_4s : codeB Try.prog LL ⟨111, 6, b, ro⟩ n111_4 st = normS b ⟨[2], []⟩ .ret st := GE.ret_step (by kernel_rfl) (by kernel_rfl)
theorem n111_2s : codeB Try.prog E cx n111_2 st = thenS (codeB Try.prog E cx n111_3 st) (codeB Try.prog E cx n111_4) := GE.seq_step (by kernel_rfl)
theorem n111_0s : codeB Try.prog E cx n111_0 st = thenS (codeB Try.prog E cx n111_1 st) (codeB Try.prog E cx n111_2) := GE.seq_step (by kernel_rfl)
theorem ia_75 : aggK Try.prog 75 = some (true, 3) := by kernel_rfl
theorem za_24 : zeroA Try.prog 24 = some (.agg #[(.int .i64 (0)), (.int .i64 (0)), (.slice none 0 0)]) := by kernel_rfl
theorem sz_24 : aggSize Try.prog 24 = some 3 := by kernel_rfl
theorem cv_50_3 : convK Try.prog 50 3 = some .i64 := by kernel_rfl
theorem cv_5_3 : convK Try.prog 5 3 = some .i64 := by kernel_rfl
theorem ia_24 : aggK Try.prog 24 = some (true, 3) := by kernel_rfl
theorem za_80 : zeroA Try.prog 80 = some (.agg #[(.bool false), (.bool false), (.bool false), (.bool false), (.bool false), (.bool false), (.bool false), (.bool false), (.bool false), (.bool false), (.bool false), (.bool false), (.bool false), (.bool false), (.bool false), (.bool false), (.bool false), (.bool false), (.bool false), (.bool false), (.bool false), (.bool false), (.bool false), (.bool false), (.bool false), (.bool false), (.bool false), (.bool false), (.bool false), (.bool false), (.bool false), (.bool false), (.bool false), (.bool false), (.bool false), (.bool false), (.bool false), (.bool false), (.bool false), (.bool false), (.bool false), (.bool false), (.bool false), (.bool false), (.bool false), (.bool false), (.bool false), (.bool false), (.bool false), (.bool false), (.bool false), (.bool false), (.bool false), (.bool false), (.bool false), (.bool false), (.bool false), (.bool false), (.bool false), (.bool false), (.bool false), (.bool false), (.bool false), (.bool false), (.bool false), (.bool false), (.bool false), (.bool false), (.bool false), (.bool false), (.bool false), (.bool false), (.bool false), (.bool false), (.bool false), (.bool false), (.bool false), (.bool false), (.bool false), (.bool false), (.bool false), (.bool false), (.bool false), (.bool false), (.bool false), (.bool false), (.bool false), (.bool false), (.bool false), (.bool false), (.bool false), (.bool false), (.bool false), (.bool false), (.bool false), (.bool false), (.bool false), (.bool false), (.bool false), (.bool false), (.bool false), (.bool false), (.bool false), (.bool false), (.bool false), (.bool false), (.bool false), (.bool false), (.bool false), (.bool false), (.bool false), (.bool false), (.bool false), (.bool false), (.bool false), (.bool false), (.bool false), (.bool false), (.bool false), (.bool false), (.bool false), (.bool false), (.bool false), (.bool false), (.bool false), (.bool false), (.bool false), (.bool false), (.bool false), (.bool false), (.bool false), (.bool false), (.bool false), (.bool false), (.bool false), (.bool false), (.bool false), (.bool false), (.bool false), (.bool false), (.bool false), (.bool false), (.bool false), (.bool false), (.bool false), (.bool false), (.bool false), (.bool false), (.bool false), (.bool false), (.bool false), (.bool false), (.bool false), (.bool false), (.bool false), (.bool false), (.bool false), (.bool false), (.bool false), (.bool false), (.bool false), (.bool false), (.bool false), (.bool false), (.bool false), (.bool false), (.bool false), (.bool false), (.bool false), (.bool false), (.bool false), (.bool false), (.bool false), (.bool false), (.bool false), (.bool false), (.bool false), (.bool false), (.bool false), (.bool false), (.bool false), (.bool false), (.bool false), (.bool false), (.bool false), (.bool false), (.bool false), (.bool false), (.bool false), (.bool false), (.bool false), (.bool false), (.bool false), (.bool false), (.bool false), (.bool false), (.bool false), (.bool false), (.bool false), (.bool false), (.bool false), (.bool false), (.bool false), (.bool false), (.bool false), (.bool false), (.bool false), (.bool false), (.bool false), (.bool false), (.bool false), (.bool false), (.bool false), (.bool false), (.bool false), (.bool false), (.bool false), (.bool false), (.bool false), (.bool false), (.bool false), (.bool false), (.bool false), (.bool false), (.bool false), (.bool false), (.bool false), (.bool false), (.bool false), (.bool false), (.bool false), (.bool false), (.bool false), (.bool false), (.bool false), (.bool false), (.bool false), (.bool false), (.bool false), (.bool false), (.bool false), (.bool false), (.bool false), (.bool false), (.bool false), (.bool false), (.bool false), (.bool false), (.bool false), (.bool false), (.bool false), (.bool false), (.bool false), (.bool false), (.bool false), (.bool false), (.bool false), (.bool false), (.bool false), (.bool false), (.bool false), (.bool false), (.bool false), (.bool false), (.bool false), (.bool false), (.bool false), (.bool false), (.bool false), (.bool false), (.bool false), (.bool false), (.bool false), (.bool false), (.bool false), (.bool false), (.bool false), (.bool false), (.bool false), (.bool false), (.bool false), (.bool false), (.bool false), (.bool false), (.bool false), (.bool false), (.bool false), (.bool false), (.bool false), (.bool false), (.bool false), (.bool false), (.bool false), (.bool false), (.bool false), (.bool false), (.bool false), (.bool false), (.bool false), (.bool false), (.bool false), (.bool false), (.bool false), (.bool false), (.bool false), (.bool false), (.bool false), (.bool false), (.bool false), (.bool false), (.bool false), (.bool false), (.bool false), (.bool false), (.bool false), (.bool false), (.bool false), (.bool false), (.bool false), (.bool false), (.bool false), (.bool false), (.bool false), (.bool false), (.bool false), (.bool false), (.bool false), (.bool false), (.bool false), (.bool false), (.bool false), (.bool false), (.bool false), (.bool false), (.bool false), (.bool false), (.bool false), (.bool false), (.bool false), (.bool false), (.bool false), (.bool false), (.bool false), (.bool false), (.bool false), (.bool false), (.bool false), (.bool false), (.bool false), (.bool false), (.bool false), (.bool false), (.bool false), (.bool false), (.bool false), (.bool false), (.bool false), (.bool false), (.bool false), (.bool false), (.bool false), (.bool false), (.bool false), (.bool false), (.bool false), (.bool false), (.bool false), (.bool false), (.bool false), (.bool false), (.bool false), (.bool false), (.bool false), (.bool false), (.bool false), (.bool false), (.bool false), (.bool false), (.bool false), (.bool false), (.bool false), (.bool false), (.bool false), (.bool false), (.bool false), (.bool false), (.bool false), (.bool false), (.bool false), (.bool false), (.bool false), (.bool false), (.bool false), (.bool false), (.bool false), (.bool false), (.bool false), (.bool false), (.bool false), (.bool false), (.bool false), (.bool false), (.bool false), (.bool false), (.bool false), (.bool false), (.bool false), (.bool false), (.bool false), (.bool false), (.bool false), (.bool false), (.bool false), (.bool false), (.bool false), (.bool false), (.bool false), (.bool false), (.bool false), (.bool false), (.bool false), (.bool false), (.bool false), (.bool false), (.bool false), (.bool false), (.bool false), (.bool false), (.bool false), (.bool false), (.bool false), (.bool false), (.bool false), (.bool false), (.bool false), (.bool false), (.bool false), (.bool false), (.bool false), (.bool false), (.bool false), (.bool false), (.bool false), (.bool false), (.bool false), (.bool false), (.bool false), (.bool false), (.bool false), (.bool false), (.bool false), (.bool false), (.bool false), (.bool false), (.bool false), (.bool false), (.bool false), (.bool false), (.bool false), (.bool false), (.bool false), (.bool false), (.bool false), (.bool false), (.bool false), (.bool false), (.bool false), (.bool false), (.bool false), (.bool false), (.bool false), (.bool false), (.bool false), (.bool false), (.bool false), (.bool false), (.bool false), (.bool false), (.bool false), (.bool false), (.bool false), (.bool false), (.bool false), (.bool false), (.bool false), (.bool false), (.bool false), (.bool false), (.bool false), (.bool false), (.bool false), (.bool false), (.bool false), (.bool false), (.bool false), (.bool false), (.bool false), (.bool false), (.bool false), (.bool false), (.bool false), (.bool false), (.bool false), (.bool false), (.bool false), (.bool false), (.bool false), (.bool false), (.bool false), (.bool false), (.bool false), (.bool false), (.bool false), (.bool false), (.bool false), (.bool false), (.bool false), (.bool false), (.bool false), (.bool false), (.bool false), (.bool false), (.bool false), (.bool false), (.bool false), (.bool false), (.bool false), (.bool false), (.bool false), (.bool false), (.bool false), (.bool false), (.bool false), (.bool false), (.bool false), (.bool false), (.bool false), (.bool false), (.bool false), (.bool false), (.bool false), (.bool false), (.bool false), (.bool false), (.bool false), (.bool false), (.bool false), (.bool false), (.bool false), (.bool false), (.bool false), (.bool false), (.bool false), (.bool false), (.bool false), (.bool false), (.bool false), (.bool false), (.bool false), (.bool false), (.bool false), (.bool false), (.bool false), (.bool false), (.bool false), (.bool false), (.bool false), (.bool false), (.bool false), (.bool false), (.bool false), (.bool false), (.bool false), (.bool false), (.bool false), (.bool false), (.bool false), (.bool false), (.bool false), (.bool false), (.bool false), (.bool false), (.bool false), (.bool false), (.bool false), (.bool false), (.bool false), (.bool false), (.bool false), (.bool false), (.bool false), (.bool false), (.bool false), (.bool false), (.bool false), (.bool false), (.bool false), (.bool false), (.bool false), (.bool false)]) := by kernel_rfl
theorem sz_80 : aggSize Try.prog 80 = some 600 := by kernel_rfl
theorem za_57 : zeroA Try.prog 57 = some (.agg #[(.int .i64 (0)), (.int .i64 (0))]) := by kernel_rfl
theorem sz_57 : aggSize Try.prog 57 = some 2 := by kernel_rfl
theorem ea_80 : elemK Try.prog 80 = some (some 10, 60) := by kernel_rfl
theorem ia_79 : aggK Try.prog 79 = some (true, 60) := by kernel_rfl
theorem lk_25 : lenK Try.prog 25 = some .sl := by kernel_rfl
theorem fa_24_2 : fieldAt Try.prog 24 2 = some (2, 1) := by kernel_rfl
theorem ia_22 : aggK Try.prog 22 = some (false, 1) := by kernel_rfl
theorem lk_22 : lenK Try.prog 22 = some .sl := by kernel_rfl
theorem es_22 : elemK Try.prog 22 = some (none, 3) := by kernel_rfl
theorem ia_59 : aggK Try.prog 59 = some (true, 3) := by kernel_rfl
theorem za_59 : zeroA Try.prog 59 = some (.agg #[(.int .i64 (0)), (.int .i64 (0)), (.int .i64 (0))]) := by kernel_rfl
theorem sz_59 : aggSize Try.prog 59 = some 3 := by kernel_rfl
theorem es_25 : elemK Try.prog 25 = some (none, 1) := by kernel_rfl
theorem ia_3 : aggK Try.prog 3 = some (false, 1) := by kernel_rfl
theorem fa_59_0 : fieldAt Try.prog 59 0 = some (0, 1) := by kernel_rfl
theorem fa_59_1 : fieldAt Try.prog 59 1 = some (1, 2) := by kernel_rfl
theorem fa_57_0 : fieldAt Try.prog 57 0 = some (0, 1) := by kernel_rfl
theorem fa_57_1 : fieldAt Try.prog 57 1 = some (1, 1) := by kernel_rfl
theorem ea_79 : elemK Try.prog 79 = some (some 60, 1) := by kernel_rfl
theorem ia_4 : aggK Try.prog 4 = some (false, 1) := by kernel_rfl
theorem fa_24_0 : fieldAt Try.prog 24 0 = some (0, 1) := by kernel_rfl
theorem fa_24_1 : fieldAt Try.prog 24 1 = some (1, 1) := by kernel_rfl
theorem za_115 : zeroA Try.prog 115 = some (.agg #[(.int .i64 (0)), (.int .i64 (0)), (.slice none 0 0), (.slice none 0 0)]) := by kernel_rfl
theorem sz_115 : aggSize Try.prog 115 = some 4 := by kernel_rfl
theorem pl_57 : plK Try.prog 57 = some [(0, 1), (1, 1)] := by kernel_rfl
theorem ia_115 : aggK Try.prog 115 = some (true, 4) := by kernel_rfl
theorem za_127 : zeroA Try.prog 127 = some (.agg #[(.int .i64 (0)), (.int .i64 (0)), (.bool false)]) := by kernel_rfl
theorem sz_127 : aggSize Try.prog 127 = some 3 := by kernel_rfl
theorem fa_127_1 : fieldAt Try.prog 127 1 = some (2, 1) := by kernel_rfl
theorem fa_127_0 : fieldAt Try.prog 127 0 = some (0, 2) := by kernel_rfl
theorem ia_57 : aggK Try.prog 57 = some (true, 2) := by kernel_rfl
theorem fa_75_0 : fieldAt Try.prog 75 0 = some (0, 1) := by kernel_rfl
theorem ia_5 : aggK Try.prog 5 = some (false, 1) := by kernel_rfl
theorem fa_75_1 : fieldAt Try.prog 75 1 = some (1, 1) := by kernel_rfl
theorem pl_24 : plK Try.prog 24 = some [(0, 1), (1, 1), (2, 1)] := by kernel_rfl
theorem fa_75_2 : fieldAt Try.prog 75 2 = some (2, 1) := by kernel_rfl
theorem ia_73 : aggK Try.prog 73 = some (false, 1) := by kernel_rfl
theorem lk_73 : lenK Try.prog 73 = some .sl := by kernel_rfl
theorem es_73 : elemK Try.prog 73 = some (none, 3) := by kernel_rfl
theorem ea_88 : elemK Try.prog 88 = some (some 3, 1) := by kernel_rfl
theorem ze_22 : zeroE Try.prog 22 = some (.agg #[(.int .i64 (0)), (.int .i64 (0)), (.int .i64 (0))]) := by kernel_rfl
theorem ba_22_1 : baseArr (Value.cells (.agg #[(.int .i64 (0)), (.int .i64 (0)), (.int .i64 (0))])) (1 * 3) = #[(.int .i64 (0)), (.int .i64 (0)), (.int .i64 (0))] := by kernel_rfl
theorem ap_22 : apK Try.prog 22 = some (3, 24) := by kernel_rfl
theorem ni_22 : notInt Try.prog 22 = true := by kernel_rfl
theorem sz_22 : aggSize Try.prog 22 = some 1 := by kernel_rfl
theorem ze_25 : zeroE Try.prog 25 = some (.int .i64 (0)) := by kernel_rfl
theorem ba_25_1 : baseArr (Value.cells (.int .i64 (0))) (1 * 1) = #[(.int .i64 (0))] := by kernel_rfl
theorem ap_25 : apK Try.prog 25 = some (1, 8) := by kernel_rfl
theorem ni_25 : notInt Try.prog 25 = true := by kernel_rfl
theorem ix_79 : arrK Try.prog 79 = some (60, 1, false) := by kernel_rfl
theorem sz_4 : aggSize Try.prog 4 = some 1 := by kernel_rfl
theorem ia_80 : aggK Try.prog 80 = some (true, 600) := by kernel_rfl
theorem pl_59 : plK Try.prog 59 = some [(0, 1), (1, 2)] := by kernel_rfl
theorem pl_115 : plK Try.prog 115 = some [(0, 3), (3, 1)] := by kernel_rfl
theorem za_155 : zeroA Try.prog 155 = some .nilFunc := by kernel_rfl
theorem sz_155 : aggSize Try.prog 155 = some 1 := by kernel_rfl
theorem ia_155 : aggK Try.prog 155 = some (false, 1) := by kernel_rfl
theorem fa_115_0 : fieldAt Try.prog 115 0 = some (0, 3) := by kernel_rfl
theorem ia_127 : aggK Try.prog 127 = some (true, 3) := by kernel_rfl
theorem fk_127_0 : fieldK Try.prog 127 0 = some (0, 2, true) := by kernel_rfl
theorem fk_57_1 : fieldK Try.prog 57 1 = some (1, 1, false) := by kernel_rfl
theorem za_4 : zeroA Try.prog 4 = some (.bool false) := by kernel_rfl
theorem za_3 : zeroA Try.prog 3 = some (.int .i64 (0)) := by kernel_rfl
theorem sz_3 : aggSize Try.prog 3 = some 1 := by kernel_rfl
theorem fa_115_1 : fieldAt Try.prog 115 1 = some (3, 1) := by kernel_rfl
theorem ia_25 : aggK Try.prog 25 = some (false, 1) := by kernel_rfl
theorem cv_3_190 : convK Try.prog 3 190 = some .u64 := by kernel_rfl
theorem cv_190_3 : convK Try.prog 190 3 = some .i64 := by kernel_rfl

end Go.Proofs.Ytiafgimgcbmgaaa.bl
