/-
  Names for the nodes of the code of some functions (projections of their bodies), the step of each node, and the facts of types that they use.
-/
import Derived.Test.YtjimphlkhjmaiaaKp
namespace Go.Proofs.Ytjimphlkhjmaiaa.sw
open Go.GE
set_option maxRecDepth 100000
variable (E : Ev) (cx : Cx) (st : St) (f nt b : Nat) (ro : Option Nat)
noncomputable def n6_0 : Code := bodyOf Try.f6
noncomputable def n6_1 : Code := cl n6_0
noncomputable def q6_1 : List Oper := opsOf n6_1
noncomputable def n6_2 : Code := cr n6_0
noncomputable def n6_3 : Code := cl n6_2
noncomputable def q6_3 : List Oper := opsOf n6_3
noncomputable def n6_4 : Code := cr n6_2
noncomputable def n6_5 : Code := cl n6_4
noncomputable def q6_5 : List Oper := opsOf n6_5
noncomputable def n6_6 : Code := cr n6_4
noncomputable def n6_7 : Code := cl n6_6
noncomputable def n6_8 : Code := cl n6_7
noncomputable def q6_8 : List Oper := opsOf n6_8
noncomputable def n6_9 : Code := cr n6_7
noncomputable def n6_10 : Code := cl n6_9
noncomputable def n6_11 : Code := cl n6_10
noncomputable def q6_11 : List Oper := opsOf n6_11
noncomputable def n6_12 : Code := cr n6_10
noncomputable def n6_13 : Code := cr n6_9
noncomputable def n6_14 : Code := cr n6_6
noncomputable def n6_15 : Code := cl n6_14
noncomputable def n6_16 : Code := cl n6_15
noncomputable def q6_16 : List Oper := opsOf n6_16
noncomputable def n6_17 : Code := cr n6_15
noncomputable def n6_18 : Code := cl n6_17
noncomputable def n6_19 : Code := cl n6_18
noncomputable def q6_19 : List Oper := opsOf n6_19
noncomputable def n6_20 : Code := cr n6_18
noncomputable def n6_21 : Code := cr n6_17
noncomputable def n6_22 : Code := cr n6_14
noncomputable def n6_23 : Code := cl n6_22
noncomputable def q6_23 : List Oper := opsOf n6_23
noncomputable def n6_24 : Code := cr n6_22
noncomputable def n6_25 : Code := cl n6_24
noncomputable def n6_26 : Code := cl n6_25
noncomputable def q6_26 : List Oper := opsOf n6_26
noncomputable def n6_27 : Code := cr n6_25
noncomputable def n6_28 : Code := cl n6_27
noncomputable def n6_29 : Code := cl n6_28
noncomputable def n6_30 : Code := cl n6_29
noncomputable def n6_31 : Code := cl n6_30
noncomputable def q6_31 : List Oper := opsOf n6_31
noncomputable def n6_32 : Code := cr n6_30
noncomputable def n6_33 : Code := cl n6_32
noncomputable def n6_34 : Code := cr n6_32
noncomputable def n6_35 : Code := cr n6_29
noncomputable def n6_36 : Code := cl n6_35
noncomputable def n6_37 : Code := cl n6_36
noncomputable def n6_38 : Code := cl n6_37
noncomputable def q6_38 : List Oper := opsOf n6_38
noncomputable def n6_39 : Code := cr n6_37
noncomputable def n6_40 : Code := cl n6_39
noncomputable def q6_40 : List Oper := opsOf n6_40
noncomputable def n6_41 : Code := cr n6_39
noncomputable def n6_42 : Code := cl n6_41
noncomputable def n6_43 : Code := cl n6_42
noncomputable def q6_43 : List Oper := opsOf n6_43
noncomputable def n6_44 : Code := cr n6_42
noncomputable def n6_45 : Code := cl n6_44
noncomputable def n6_46 : Code := cl n6_45
noncomputable def n6_47 : Code := cl n6_46
noncomputable def n6_48 : Code := cl n6_47
noncomputable def q6_48 : List Oper := opsOf n6_48
noncomputable def n6_49 : Code := cr n6_47
noncomputable def n6_50 : Code := cl n6_49
noncomputable def n6_51 : Code := cr n6_49
noncomputable def n6_52 : Code := cr n6_46
noncomputable def n6_53 : Code := cl n6_52
noncomputable def n6_54 : Code := cl n6_53
noncomputable def n6_55 : Code := cl n6_54
noncomputable def q6_55 : List Oper := opsOf n6_55
noncomputable def n6_56 : Code := cr n6_54
noncomputable def n6_57 : Code := cl n6_56
noncomputable def n6_58 : Code := cl n6_57
noncomputable def q6_58 : List Oper := opsOf n6_58
noncomputable def n6_59 : Code := cr n6_57
noncomputable def q6_59 : List Oper := opsOf n6_59
noncomputable def n6_60 : Code := cr n6_56
noncomputable def n6_61 : Code := cr n6_52
noncomputable def q6_61 : List Oper := opsOf n6_61
noncomputable def n6_62 : Code := cr n6_41
noncomputable def n6_63 : Code := cl n6_62
noncomputable def q6_63 : List Oper := opsOf n6_63
noncomputable def n6_64 : Code := cr n6_62
noncomputable def n6_65 : Code := cl n6_64
noncomputable def n6_66 : Code := cl n6_65
noncomputable def q6_66 : List Oper := opsOf n6_66
noncomputable def n6_67 : Code := cr n6_65
noncomputable def n6_68 : Code := cl n6_67
noncomputable def n6_69 : Code := cl n6_68
noncomputable def n6_70 : Code := cl n6_69
noncomputable def q6_70 : List Oper := opsOf n6_70
noncomputable def n6_71 : Code := cr n6_69
noncomputable def n6_72 : Code := cl n6_71
noncomputable def n6_73 : Code := cl n6_72
noncomputable def n6_74 : Code := cr n6_72
noncomputable def n6_75 : Code := cr n6_71
noncomputable def n6_76 : Code := cl n6_75
noncomputable def n6_77 : Code := cl n6_76
noncomputable def n6_78 : Code := cl n6_77
noncomputable def q6_78 : List Oper := opsOf n6_78
noncomputable def n6_79 : Code := cr n6_77
noncomputable def q6_79 : List Oper := opsOf n6_79
noncomputable def n6_80 : Code := cr n6_75
noncomputable def q6_80 : List Oper := opsOf n6_80
noncomputable def n6_81 : Code := cr n6_64
noncomputable def n6_82 : Code := cl n6_81
noncomputable def q6_82 : List Oper := opsOf n6_82
noncomputable def n6_83 : Code := cr n6_81
noncomputable def n6_84 : Code := cl n6_83
noncomputable def n6_85 : Code := cl n6_84
noncomputable def q6_85 : List Oper := opsOf n6_85
noncomputable def n6_86 : Code := cr n6_84
noncomputable def n6_87 : Code := cl n6_86
noncomputable def q6_87 : List Oper := opsOf n6_87
noncomputable def n6_88 : Code := cr n6_86
noncomputable def n6_89 : Code := cl n6_88
noncomputable def n6_90 : Code := cl n6_89
noncomputable def q6_90 : List Oper := opsOf n6_90
noncomputable def n6_91 : Code := cr n6_89
noncomputable def n6_92 : Code := cr n6_88
noncomputable def n6_93 : Code := cr n6_83
noncomputable def n6_94 : Code := cr n6_35
noncomputable def q6_94 : List Oper := opsOf n6_94
noncomputable def n6_95 : Code := cr n6_24
noncomputable def n6_96 : Code := cl n6_95
noncomputable def n6_97 : Code := cl n6_96
noncomputable def q6_97 : List Oper := opsOf n6_97
noncomputable def n6_98 : Code := cr n6_96
noncomputable def n6_99 : Code := cl n6_98
noncomputable def n6_100 : Code := cl n6_99
noncomputable def q6_100 : List Oper := opsOf n6_100
noncomputable def n6_101 : Code := cr n6_99
noncomputable def n6_102 : Code := cr n6_98
noncomputable def n6_103 : Code := cr n6_95
noncomputable def n6_104 : Code := cl n6_103
noncomputable def q6_104 : List Oper := opsOf n6_104
noncomputable def n6_105 : Code := cr n6_103
noncomputable def n6_106 : Code := cl n6_105
noncomputable def n6_107 : Code := cl n6_106
noncomputable def q6_107 : List Oper := opsOf n6_107
noncomputable def n6_108 : Code := cr n6_106
noncomputable def n6_109 : Code := cl n6_108
noncomputable def n6_110 : Code := cl n6_109
noncomputable def n6_111 : Code := cl n6_110
noncomputable def q6_111 : List Oper := opsOf n6_111
noncomputable def n6_112 : Code := cr n6_110
noncomputable def n6_113 : Code := cl n6_112
noncomputable def n6_114 : Code := cl n6_113
noncomputable def n6_115 : Code := cr n6_113
noncomputable def n6_116 : Code := cr n6_112
noncomputable def n6_117 : Code := cl n6_116
noncomputable def n6_118 : Code := cl n6_117
noncomputable def q6_118 : List Oper := opsOf n6_118
noncomputable def n6_119 : Code := cr n6_117
noncomputable def q6_119 : List Oper := opsOf n6_119
noncomputable def n6_120 : Code := cr n6_105
noncomputable def n6_121 : Code := cl n6_120
noncomputable def q6_121 : List Oper := opsOf n6_121
noncomputable def n6_122 : Code := cr n6_120
noncomputable def n6_123 : Code := cl n6_122
noncomputable def n6_124 : Code := cl n6_123
noncomputable def q6_124 : List Oper := opsOf n6_124
noncomputable def n6_125 : Code := cr n6_123
noncomputable def n6_126 : Code := cl n6_125
noncomputable def n6_127 : Code := cl n6_126
noncomputable def n6_128 : Code := cl n6_127
noncomputable def n6_129 : Code := cl n6_128
noncomputable def q6_129 : List Oper := opsOf n6_129
noncomputable def n6_130 : Code := cr n6_128
noncomputable def n6_131 : Code := cl n6_130
noncomputable def n6_132 : Code := cr n6_130
noncomputable def n6_133 : Code := cr n6_127
noncomputable def n6_134 : Code := cl n6_133
noncomputable def n6_135 : Code := cl n6_134
noncomputable def n6_136 : Code := cl n6_135
noncomputable def q6_136 : List Oper := opsOf n6_136
noncomputable def n6_137 : Code := cr n6_135
noncomputable def n6_138 : Code := cl n6_137
noncomputable def q6_138 : List Oper := opsOf n6_138
noncomputable def n6_139 : Code := cr n6_137
noncomputable def n6_140 : Code := cr n6_133
noncomputable def q6_140 : List Oper := opsOf n6_140
noncomputable def n6_141 : Code := cr n6_122
noncomputable def n6_142 : Code := cl n6_141
noncomputable def q6_142 : List Oper := opsOf n6_142
noncomputable def n6_143 : Code := cr n6_141
theorem body6 : Try.f6.body = some n6_0 := by kernel_rfl
theorem run6 (E : Ev) (args : List Value) (h : List Blk) (hl : args.length ≤ 159) : runB Try.prog E 6 args h = endS Try.prog [.tmp 2] h.length (codeB Try.prog E ⟨6, 159, h.length, none⟩ n6_0 ⟨enumT 0 args, h, []⟩) := GE.run_step Try.func6 body6 (by kernel_rfl) (by decide) (by kernel_rfl) hl
theorem n6_1s : codeB Try.prog E ⟨f, 159, b, ro⟩ n6_1 st = plainS (runOps Try.prog E b q6_1 (ops [false] Try.f6) st) := GE.region_step (id := 0) (GE.reg_of (by kernel_rfl)) (by kernel_rfl)
theorem n6_3s : codeB Try.prog E ⟨f, 159, b, ro⟩ n6_3 st = plainS (runOps Try.prog E b q6_3 (ops [true, false] Try.f6) st) := GE.region_step (id := 1) (GE.reg_of (by kernel_rfl)) (by kernel_rfl)
theorem n6_5s : codeB Try.prog E ⟨f, 159, b, ro⟩ n6_5 st = plainS (runOps Try.prog E b q6_5 (ops [true, true, false] Try.f6) st) := GE.region_step (id := 2) (GE.reg_of (by kernel_rfl)) (by kernel_rfl)
theorem q6_8g2 : gd q6_8 2 = some 27 := by kernel_rfl
theorem n6_8s : codeB Try.prog E ⟨f, 159, b, ro⟩ n6_8 st = plainS (runOps Try.prog E b q6_8 (ops [true, true, true, false, false] Try.f6) st) := GE.region_step (id := 3) (GE.reg_of (by kernel_rfl)) (by kernel_rfl)
theorem n6_11s : codeB Try.prog E ⟨f, 159, b, ro⟩ n6_11 st = plainS (runOps Try.prog E b q6_11 (ops [true, true, true, false, true, false, false] Try.f6) st) := GE.region_step (id := 4) (GE.reg_of (by kernel_rfl)) (by kernel_rfl)
theorem n6_12s : codeB Try.prog LL ⟨6, 159, b, ro⟩ n6_12 st = normS b ⟨[2], []⟩ .ret st := GE.ret_step (by kernel_rfl) (by kernel_rfl)
theorem n6_10s : codeB Try.prog E cx n6_10 st = thenS (codeB Try.prog E cx n6_11 st) (codeB Try.prog E cx n6_12) := GE.seq_step (by kernel_rfl)
theorem n6_13s : codeB Try.prog E cx n6_13 st = some (.normal, st) := GE.skip_step (by kernel_rfl)
theorem n6_9s : codeB Try.prog E cx n6_9 st = condS (codeB Try.prog E cx n6_10) (codeB Try.prog E cx n6_13) (lk st.σ 33) st := GE.cond_step (c := .tmp 33) (by kernel_rfl)
theorem n6_7s : codeB Try.prog E cx n6_7 st = thenS (codeB Try.prog E cx n6_8 st) (codeB Try.prog E cx n6_9) := GE.seq_step (by kernel_rfl)
theorem n6_16s : codeB Try.prog E ⟨f, 159, b, ro⟩ n6_16 st = plainS (runOps Try.prog E b q6_16 (ops [true, true, true, true, false, false] Try.f6) st) := GE.region_step (id := 5) (GE.reg_of (by kernel_rfl)) (by kernel_rfl)
theorem q6_19g3 : gd q6_19 3 = some 40 := by kernel_rfl
theorem n6_19s : codeB Try.prog E ⟨f, 159, b, ro⟩ n6_19 st = plainS (runOps Try.prog E b q6_19 (ops [true, true, true, true, false, true, false, false] Try.f6) st) := GE.region_step (id := 6) (GE.reg_of (by kernel_rfl)) (by kernel_rfl)
theorem n6_20s : codeB Try.prog LL ⟨6, 159, b, ro⟩ n6_20 st = normS b ⟨[2], []⟩ .ret st := GE.ret_step (by kernel_rfl) (by kernel_rfl)
theorem n6_18s : codeB Try.prog E cx n6_18 st = thenS (codeB Try.prog E cx n6_19 st) (codeB Try.prog E cx n6_20) := GE.seq_step (by kernel_rfl)
theorem n6_21s : codeB Try.prog E cx n6_21 st = some (.normal, st) := GE.skip_step (by kernel_rfl)
theorem n6_17s : codeB Try.prog E cx n6_17 st = condS (codeB Try.prog E cx n6_18) (codeB Try.prog E cx n6_21) (lk st.σ 36) st := GE.cond_step (c := .tmp 36) (by kernel_rfl)
theorem n6_15s : codeB Try.prog E cx n6_15 st = thenS (codeB Try.prog E cx n6_16 st) (codeB Try.prog E cx n6_17) := GE.seq_step (by kernel_rfl)
theorem n6_23s : codeB Try.prog E ⟨f, 159, b, ro⟩ n6_23 st = plainS (runOps Try.prog E b q6_23 (ops [true, true, true, true, true, false] Try.f6) st) := GE.region_step (id := 7) (GE.reg_of (by kernel_rfl)) (by kernel_rfl)
theorem n6_26s : codeB Try.prog E ⟨f, 159, b, ro⟩ n6_26 st = plainS (runOps Try.prog E b q6_26 (ops [true, true, true, true, true, true, false, false] Try.f6) st) := GE.region_step (id := 8) (GE.reg_of (by kernel_rfl)) (by kernel_rfl)
theorem n6_31s : codeB Try.prog E ⟨f, 159, b, ro⟩ n6_31 st = plainS (runOps Try.prog E b q6_31 (ops [true, true, true, true, true, true, false, true, false, false, false, false] Try.f6) st) := GE.region_step (id := 9) (GE.reg_of (by kernel_rfl)) (by kernel_rfl)
theorem n6_33s : codeB Try.prog E cx n6_33 st = some (.normal, st) := GE.skip_step (by kernel_rfl)
theorem n6_34s : codeB Try.prog LL ⟨6, 159, b, ro⟩ n6_34 st = normS b ⟨[3, 4, 6], [⟨4, 0, 1, true⟩]⟩ (.exit 0) st := GE.exit_step (by kernel_rfl) (by kernel_rfl)
theorem n6_32s : codeB Try.prog E cx n6_32 st = condS (codeB Try.prog E cx n6_33) (codeB Try.prog E cx n6_34) (lk st.σ 48) st := GE.cond_step (c := .tmp 48) (by kernel_rfl)
theorem n6_30s : codeB Try.prog E cx n6_30 st = thenS (codeB Try.prog E cx n6_31 st) (codeB Try.prog E cx n6_32) := GE.seq_step (by kernel_rfl)
theorem n6_38s : codeB Try.prog E ⟨f, 159, b, ro⟩ n6_38 st = plainS (runOps Try.prog E b q6_38 (ops [true, true, true, true, true, true, false, true, false, false, true, false, false, false] Try.f6) st) := GE.region_step (id := 11) (GE.reg_of (by kernel_rfl)) (by kernel_rfl)
theorem n6_40s : codeB Try.prog E ⟨f, 159, b, ro⟩ n6_40 st = plainS (runOps Try.prog E b q6_40 (ops [true, true, true, true, true, true, false, true, false, false, true, false, false, true, false] Try.f6) st) := GE.region_step (id := 12) (GE.reg_of (by kernel_rfl)) (by kernel_rfl)
theorem n6_43s : codeB Try.prog E ⟨f, 159, b, ro⟩ n6_43 st = plainS (runOps Try.prog E b q6_43 (ops [true, true, true, true, true, true, false, true, false, false, true, false, false, true, true, false, false] Try.f6) st) := GE.region_step (id := 13) (GE.reg_of (by kernel_rfl)) (by kernel_rfl)
theorem n6_48s : codeB Try.prog E ⟨f, 159, b, ro⟩ n6_48 st = plainS (runOps Try.prog E b q6_48 (ops [true, true, true, true, true, true, false, true, false, false, true, false, false, true, true, false, true, false, false, false, false] Try.f6) st) := GE.region_step (id := 14) (GE.reg_of (by kernel_rfl)) (by kernel_rfl)
theorem n6_50s : codeB Try.prog E cx n6_50 st = some (.normal, st) := GE.skip_step (by kernel_rfl)
theorem n6_51s : codeB Try.prog LL ⟨6, 159, b, ro⟩ n6_51 st = normS b ⟨[8, 3, 4, 6, 7], [⟨8, 0, 1, true⟩, ⟨4, 0, 1, true⟩]⟩ (.exit 2) st := GE.exit_step (by kernel_rfl) (by kernel_rfl)
theorem n6_49s : codeB Try.prog E cx n6_49 st = condS (codeB Try.prog E cx n6_50) (codeB Try.prog E cx n6_51) (lk st.σ 54) st := GE.cond_step (c := .tmp 54) (by kernel_rfl)
theorem n6_47s : codeB Try.prog E cx n6_47 st = thenS (codeB Try.prog E cx n6_48 st) (codeB Try.prog E cx n6_49) := GE.seq_step (by kernel_rfl)
theorem q6_55g4 : gd q6_55 4 = some 61 := by kernel_rfl
theorem n6_55s : codeB Try.prog E ⟨f, 159, b, ro⟩ n6_55 st = plainS (runOps Try.prog E b q6_55 (ops [true, true, true, true, true, true, false, true, false, false, true, false, false, true, true, false, true, false, false, true, false, false, false] Try.f6) st) := GE.region_step (id := 16) (GE.reg_of (by kernel_rfl)) (by kernel_rfl)
theorem n6_58s : codeB Try.prog E ⟨f, 159, b, ro⟩ n6_58 st = plainS (runOps Try.prog E b q6_58 (ops [true, true, true, true, true, true, false, true, false, false, true, false, false, true, true, false, true, false, false, true, false, false, true, false, false] Try.f6) st) := GE.region_step (id := 17) (GE.reg_of (by kernel_rfl)) (by kernel_rfl)
theorem n6_59s : codeB Try.prog E ⟨f, 159, b, ro⟩ n6_59 st = plainS (runOps Try.prog E b q6_59 (ops [true, true, true, true, true, true, false, true, false, false, true, false, false, true, true, false, true, false, false, true, false, false, true, false, true] Try.f6) st) := GE.region_step (id := 18) (GE.reg_of (by kernel_rfl)) (by kernel_rfl)
theorem n6_57s : codeB Try.prog E cx n6_57 st = thenS (codeB Try.prog E cx n6_58 st) (codeB Try.prog E cx n6_59) := GE.seq_step (by kernel_rfl)
theorem n6_60s : codeB Try.prog E cx n6_60 st = some (.normal, st) := GE.skip_step (by kernel_rfl)
theorem n6_56s : codeB Try.prog E cx n6_56 st = condS (codeB Try.prog E cx n6_57) (codeB Try.prog E cx n6_60) (lk st.σ 68) st := GE.cond_step (c := .tmp 68) (by kernel_rfl)
theorem n6_54s : codeB Try.prog E cx n6_54 st = thenS (codeB Try.prog E cx n6_55 st) (codeB Try.prog E cx n6_56) := GE.seq_step (by kernel_rfl)
theorem n6_53s : codeB Try.prog E cx n6_53 st = blockS 3 (codeB Try.prog E cx n6_54 st) st := GE.block_step (by kernel_rfl)
theorem n6_61s : codeB Try.prog E ⟨f, 159, b, ro⟩ n6_61 st = plainS (runOps Try.prog E b q6_61 (ops [true, true, true, true, true, true, false, true, false, false, true, false, false, true, true, false, true, false, false, true, true] Try.f6) st) := GE.region_step (id := 15) (GE.reg_of (by kernel_rfl)) (by kernel_rfl)
theorem n6_52s : codeB Try.prog E cx n6_52 st = thenS (codeB Try.prog E cx n6_53 st) (codeB Try.prog E cx n6_61) := GE.seq_step (by kernel_rfl)
theorem n6_46s : codeB Try.prog E cx n6_46 st = thenS (codeB Try.prog E cx n6_47 st) (codeB Try.prog E cx n6_52) := GE.seq_step (by kernel_rfl)
theorem n6_45k : LL.kp (⟨6, 159, b, ro⟩ : Cx).fn (4 * rid n6_46 + 3) = some ⟨[8, 9, 10, 3, 4, 6, 7], [⟨8, 0, 1, true⟩, ⟨4, 0, 1, true⟩]⟩ := by kernel_rfl
theorem n6_45s : codeB Try.prog LL ⟨6, 159, b, ro⟩ n6_45 st = headS b ⟨[8, 9, 10, 3, 4, 6, 7], [⟨8, 0, 1, true⟩, ⟨4, 0, 1, true⟩]⟩ st (lpB Try.prog LL ⟨6, 159, b, ro⟩ n6_45 n6_46) := GE.lpB_step (by kernel_rfl) (n6_45k b ro)
theorem n6_45g : LL.code ⟨6, 159, b, ro⟩ n6_45 st = headS b ⟨[8, 9, 10, 3, 4, 6, 7], [⟨8, 0, 1, true⟩, ⟨4, 0, 1, true⟩]⟩ st (lpB Try.prog LL ⟨6, 159, b, ro⟩ n6_45 n6_46) := GE.lpB_again (by kernel_rfl) (n6_45k b ro)
theorem n6_44s : codeB Try.prog E cx n6_44 st = blockS 2 (codeB Try.prog E cx n6_45 st) st := GE.block_step (by kernel_rfl)
theorem n6_42s : codeB Try.prog E cx n6_42 st = thenS (codeB Try.prog E cx n6_43 st) (codeB Try.prog E cx n6_44) := GE.seq_step (by kernel_rfl)
theorem n6_63s : codeB Try.prog E ⟨f, 159, b, ro⟩ n6_63 st = plainS (runOps Try.prog E b q6_63 (ops [true, true, true, true, true, true, false, true, false, false, true, false, false, true, true, true, false] Try.f6) st) := GE.region_step (id := 19) (GE.reg_of (by kernel_rfl)) (by kernel_rfl)
theorem n6_66s : codeB Try.prog E ⟨f, 159, b, ro⟩ n6_66 st = plainS (runOps Try.prog E b q6_66 (ops [true, true, true, true, true, true, false, true, false, false, true, false, false, true, true, true, true, false, false] Try.f6) st) := GE.region_step (id := 20) (GE.reg_of (by kernel_rfl)) (by kernel_rfl)
theorem n6_70s : codeB Try.prog E ⟨f, 159, b, ro⟩ n6_70 st = plainS (runOps Try.prog E b q6_70 (ops [true, true, true, true, true, true, false, true, false, false, true, false, false, true, true, true, true, false, true, false, false, false] Try.f6) st) := GE.region_step (id := 21) (GE.reg_of (by kernel_rfl)) (by kernel_rfl)
theorem n6_73s : codeB Try.prog E cx n6_73 st = some (.normal, st) := GE.skip_step (by kernel_rfl)
theorem n6_74s : codeB Try.prog LL ⟨6, 159, b, ro⟩ n6_74 st = normS b ⟨[8, 11, 3, 4, 6, 7], [⟨8, 0, 1, true⟩, ⟨4, 0, 1, true⟩]⟩ (.exit 4) st := GE.exit_step (by kernel_rfl) (by kernel_rfl)
theorem n6_72s : codeB Try.prog E cx n6_72 st = condS (codeB Try.prog E cx n6_73) (codeB Try.prog E cx n6_74) (lk st.σ 80) st := GE.cond_step (c := .tmp 80) (by kernel_rfl)
theorem n6_78s : codeB Try.prog E ⟨f, 159, b, ro⟩ n6_78 st = plainS (runOps Try.prog E b q6_78 (ops [true, true, true, true, true, true, false, true, false, false, true, false, false, true, true, true, true, false, true, false, false, true, true, false, false, false] Try.f6) st) := GE.region_step (id := 22) (GE.reg_of (by kernel_rfl)) (by kernel_rfl)
theorem q6_79g1 : gd q6_79 1 = some 85 := by kernel_rfl
theorem q6_79g5 : gd q6_79 5 = some 89 := by kernel_rfl
theorem q6_79g8 : gd q6_79 8 = some 92 := by kernel_rfl
theorem n6_79s : codeB Try.prog E ⟨f, 159, b, ro⟩ n6_79 st = plainS (runOps Try.prog E b q6_79 (ops [true, true, true, true, true, true, false, true, false, false, true, false, false, true, true, true, true, false, true, false, false, true, true, false, false, true] Try.f6) st) := GE.region_step (id := 23) (GE.reg_of (by kernel_rfl)) (by kernel_rfl)
theorem n6_77s : codeB Try.prog E cx n6_77 st = thenS (codeB Try.prog E cx n6_78 st) (codeB Try.prog E cx n6_79) := GE.seq_step (by kernel_rfl)
theorem n6_76s : codeB Try.prog E cx n6_76 st = blockS 5 (codeB Try.prog E cx n6_77 st) st := GE.block_step (by kernel_rfl)
theorem n6_80s : codeB Try.prog E ⟨f, 159, b, ro⟩ n6_80 st = plainS (runOps Try.prog E b q6_80 (ops [true, true, true, true, true, true, false, true, false, false, true, false, false, true, true, true, true, false, true, false, false, true, true, true] Try.f6) st) := GE.region_step (id := 24) (GE.reg_of (by kernel_rfl)) (by kernel_rfl)
theorem n6_75s : codeB Try.prog E cx n6_75 st = thenS (codeB Try.prog E cx n6_76 st) (codeB Try.prog E cx n6_80) := GE.seq_step (by kernel_rfl)
theorem n6_71s : codeB Try.prog E cx n6_71 st = thenS (codeB Try.prog E cx n6_72 st) (codeB Try.prog E cx n6_75) := GE.seq_step (by kernel_rfl)
theorem n6_69s : codeB Try.prog E cx n6_69 st = thenS (codeB Try.prog E cx n6_70 st) (codeB Try.prog E cx n6_71) := GE.seq_step (by kernel_rfl)
theorem n6_68k : LL.kp (⟨6, 159, b, ro⟩ : Cx).fn (4 * rid n6_69 + 3) = some ⟨[8, 11, 77, 78, 79, 3, 4, 6, 7], [⟨8, 0, 1, true⟩, ⟨77, 0, 1, true⟩, ⟨4, 0, 1, true⟩]⟩ := by kernel_rfl
theorem n6_68s : codeB Try.prog LL ⟨6, 159, b, ro⟩ n6_68 st = headS b ⟨[8, 11, 77, 78, 79, 3, 4, 6, 7], [⟨8, 0, 1, true⟩, ⟨77, 0, 1, true⟩, ⟨4, 0, 1, true⟩]⟩ st (lpB Try.prog LL ⟨6, 159, b, ro⟩ n6_68 n6_69) := GE.lpB_step (by kernel_rfl) (n6_68k b ro)
theorem n6_68g : LL.code ⟨6, 159, b, ro⟩ n6_68 st = headS b ⟨[8, 11, 77, 78, 79, 3, 4, 6, 7], [⟨8, 0, 1, true⟩, ⟨77, 0, 1, true⟩, ⟨4, 0, 1, true⟩]⟩ st (lpB Try.prog LL ⟨6, 159, b, ro⟩ n6_68 n6_69) := GE.lpB_again (by kernel_rfl) (n6_68k b ro)
theorem n6_67s : codeB Try.prog E cx n6_67 st = blockS 4 (codeB Try.prog E cx n6_68 st) st := GE.block_step (by kernel_rfl)
theorem n6_65s : codeB Try.prog E cx n6_65 st = thenS (codeB Try.prog E cx n6_66 st) (codeB Try.prog E cx n6_67) := GE.seq_step (by kernel_rfl)
theorem n6_82s : codeB Try.prog E ⟨f, 159, b, ro⟩ n6_82 st = plainS (runOps Try.prog E b q6_82 (ops [true, true, true, true, true, true, false, true, false, false, true, false, false, true, true, true, true, true, false] Try.f6) st) := GE.region_step (id := 25) (GE.reg_of (by kernel_rfl)) (by kernel_rfl)
theorem n6_85s : codeB Try.prog E ⟨f, 159, b, ro⟩ n6_85 st = plainS (runOps Try.prog E b q6_85 (ops [true, true, true, true, true, true, false, true, false, false, true, false, false, true, true, true, true, true, true, false, false] Try.f6) st) := GE.region_step (id := 26) (GE.reg_of (by kernel_rfl)) (by kernel_rfl)
theorem n6_87s : codeB Try.prog E ⟨f, 159, b, ro⟩ n6_87 st = plainS (runOps Try.prog E b q6_87 (ops [true, true, true, true, true, true, false, true, false, false, true, false, false, true, true, true, true, true, true, false, true, false] Try.f6) st) := GE.region_step (id := 27) (GE.reg_of (by kernel_rfl)) (by kernel_rfl)
theorem n6_90s : codeB Try.prog E ⟨f, 159, b, ro⟩ n6_90 st = plainS (runOps Try.prog E b q6_90 (ops [true, true, true, true, true, true, false, true, false, false, true, false, false, true, true, true, true, true, true, false, true, true, false, false] Try.f6) st) := GE.region_step (id := 28) (GE.reg_of (by kernel_rfl)) (by kernel_rfl)
theorem n6_91s : codeB Try.prog LL ⟨6, 159, b, ro⟩ n6_91 st = normS b ⟨[2], []⟩ .ret st := GE.ret_step (by kernel_rfl) (by kernel_rfl)
theorem n6_89s : codeB Try.prog E cx n6_89 st = thenS (codeB Try.prog E cx n6_90 st) (codeB Try.prog E cx n6_91) := GE.seq_step (by kernel_rfl)
theorem n6_92s : codeB Try.prog E cx n6_92 st = some (.normal, st) := GE.skip_step (by kernel_rfl)
theorem n6_88s : codeB Try.prog E cx n6_88 st = condS (codeB Try.prog E cx n6_89) (codeB Try.prog E cx n6_92) (lk st.σ 109) st := GE.cond_step (c := .tmp 109) (by kernel_rfl)
theorem n6_86s : codeB Try.prog E cx n6_86 st = thenS (codeB Try.prog E cx n6_87 st) (codeB Try.prog E cx n6_88) := GE.seq_step (by kernel_rfl)
theorem n6_84s : codeB Try.prog E cx n6_84 st = thenS (codeB Try.prog E cx n6_85 st) (codeB Try.prog E cx n6_86) := GE.seq_step (by kernel_rfl)
theorem n6_93s : codeB Try.prog E cx n6_93 st = some (.normal, st) := GE.skip_step (by kernel_rfl)
theorem n6_83s : codeB Try.prog E cx n6_83 st = condS (codeB Try.prog E cx n6_84) (codeB Try.prog E cx n6_93) (lk st.σ 103) st := GE.cond_step (c := .tmp 103) (by kernel_rfl)
theorem n6_81s : codeB Try.prog E cx n6_81 st = thenS (codeB Try.prog E cx n6_82 st) (codeB Try.prog E cx n6_83) := GE.seq_step (by kernel_rfl)
theorem n6_64s : codeB Try.prog E cx n6_64 st = thenS (codeB Try.prog E cx n6_65 st) (codeB Try.prog E cx n6_81) := GE.seq_step (by kernel_rfl)
theorem n6_62s : codeB Try.prog E cx n6_62 st = thenS (codeB Try.prog E cx n6_63 st) (codeB Try.prog E cx n6_64) := GE.seq_step (by kernel_rfl)
theorem n6_41s : codeB Try.prog E cx n6_41 st = thenS (codeB Try.prog E cx n6_42 st) (codeB Try.prog E cx n6_62) := GE.seq_step (by kernel_rfl)
theorem n6_39s : codeB Try.prog E cx n6_39 st = thenS (codeB Try.prog E cx n6_40 st) (codeB Try.prog E cx n6_41) := GE.seq_step (by kernel_rfl)
theorem n6_37s : codeB Try.prog E cx n6_37 st = thenS (codeB Try.prog E cx n6_38 st) (codeB Try.prog E cx n6_39) := GE.seq_step (by kernel_rfl)
theorem n6_36s : codeB Try.prog E cx n6_36 st = blockS 1 (codeB Try.prog E cx n6_37 st) st := GE.block_step (by kernel_rfl)
theorem n6_94s : codeB Try.prog E ⟨f, 159, b, ro⟩ n6_94 st = plainS (runOps Try.prog E b q6_94 (ops [true, true, true, true, true, true, false, true, false, false, true, true] Try.f6) st) := GE.region_step (id := 10) (GE.reg_of (by kernel_rfl)) (by kernel_rfl)
theorem n6_35s : codeB Try.prog E cx n6_35 st = thenS (codeB Try.prog E cx n6_36 st) (codeB Try.prog E cx n6_94) := GE.seq_step (by kernel_rfl)
theorem n6_29s : codeB Try.prog E cx n6_29 st = thenS (codeB Try.prog E cx n6_30 st) (codeB Try.prog E cx n6_35) := GE.seq_step (by kernel_rfl)
theorem n6_28k : LL.kp (⟨6, 159, b, ro⟩ : Cx).fn (4 * rid n6_29 + 3) = some ⟨[3, 4, 6, 7], [⟨4, 0, 1, true⟩]⟩ := by kernel_rfl
theorem n6_28s : codeB Try.prog LL ⟨6, 159, b, ro⟩ n6_28 st = headS b ⟨[3, 4, 6, 7], [⟨4, 0, 1, true⟩]⟩ st (lpB Try.prog LL ⟨6, 159, b, ro⟩ n6_28 n6_29) := GE.lpB_step (by kernel_rfl) (n6_28k b ro)
theorem n6_28g : LL.code ⟨6, 159, b, ro⟩ n6_28 st = headS b ⟨[3, 4, 6, 7], [⟨4, 0, 1, true⟩]⟩ st (lpB Try.prog LL ⟨6, 159, b, ro⟩ n6_28 n6_29) := GE.lpB_again (by kernel_rfl) (n6_28k b ro)
theorem n6_27s : codeB Try.prog E cx n6_27 st = blockS 0 (codeB Try.prog E cx n6_28 st) st := GE.block_step (by kernel_rfl)
theorem n6_25s : codeB Try.prog E cx n6_25 st = thenS (codeB Try.prog E cx n6_26 st) (codeB Try.prog E cx n6_27) := GE.seq_step (by kernel_rfl)
theorem q6_97g2 : gd q6_97 2 = some 112 := by kernel_rfl
theorem n6_97s : codeB Try.prog E ⟨f, 159, b, ro⟩ n6_97 st = plainS (runOps Try.prog E b q6_97 (ops [true, true, true, true, true, true, true, false, false] Try.f6) st) := GE.region_step (id := 29) (GE.reg_of (by kernel_rfl)) (by kernel_rfl)
theorem n6_100s : codeB Try.prog E ⟨f, 159, b, ro⟩ n6_100 st = plainS (runOps Try.prog E b q6_100 (ops [true, true, true, true, true, true, true, false, true, false, false] Try.f6) st) := GE.region_step (id := 30) (GE.reg_of (by kernel_rfl)) (by kernel_rfl)
theorem n6_101s : codeB Try.prog LL ⟨6, 159, b, ro⟩ n6_101 st = normS b ⟨[2], []⟩ .ret st := GE.ret_step (by kernel_rfl) (by kernel_rfl)
theorem n6_99s : codeB Try.prog E cx n6_99 st = thenS (codeB Try.prog E cx n6_100 st) (codeB Try.prog E cx n6_101) := GE.seq_step (by kernel_rfl)
theorem n6_102s : codeB Try.prog E cx n6_102 st = some (.normal, st) := GE.skip_step (by kernel_rfl)
theorem n6_98s : codeB Try.prog E cx n6_98 st = condS (codeB Try.prog E cx n6_99) (codeB Try.prog E cx n6_102) (lk st.σ 116) st := GE.cond_step (c := .tmp 116) (by kernel_rfl)
theorem n6_96s : codeB Try.prog E cx n6_96 st = thenS (codeB Try.prog E cx n6_97 st) (codeB Try.prog E cx n6_98) := GE.seq_step (by kernel_rfl)
theorem n6_104s : codeB Try.prog E ⟨f, 159, b, ro⟩ n6_104 st = plainS (runOps Try.prog E b q6_104 (ops [true, true, true, true, true, true, true, true, false] Try.f6) st) := GE.region_step (id := 31) (GE.reg_of (by kernel_rfl)) (by kernel_rfl)
theorem n6_107s : codeB Try.prog E ⟨f, 159, b, ro⟩ n6_107 st = plainS (runOps Try.prog E b q6_107 (ops [true, true, true, true, true, true, true, true, true, false, false] Try.f6) st) := GE.region_step (id := 32) (GE.reg_of (by kernel_rfl)) (by kernel_rfl)
theorem n6_111s : codeB Try.prog E ⟨f, 159, b, ro⟩ n6_111 st = plainS (runOps Try.prog E b q6_111 (ops [true, true, true, true, true, true, true, true, true, false, true, false, false, false] Try.f6) st) := GE.region_step (id := 33) (GE.reg_of (by kernel_rfl)) (by kernel_rfl)
theorem n6_114s : codeB Try.prog E cx n6_114 st = some (.normal, st) := GE.skip_step (by kernel_rfl)
theorem n6_115s : codeB Try.prog LL ⟨6, 159, b, ro⟩ n6_115 st = normS b ⟨[3, 4, 14], [⟨4, 0, 1, true⟩]⟩ (.exit 6) st := GE.exit_step (by kernel_rfl) (by kernel_rfl)
theorem n6_113s : codeB Try.prog E cx n6_113 st = condS (codeB Try.prog E cx n6_114) (codeB Try.prog E cx n6_115) (lk st.σ 121) st := GE.cond_step (c := .tmp 121) (by kernel_rfl)
theorem n6_118s : codeB Try.prog E ⟨f, 159, b, ro⟩ n6_118 st = plainS (runOps Try.prog E b q6_118 (ops [true, true, true, true, true, true, true, true, true, false, true, false, false, true, true, false, false] Try.f6) st) := GE.region_step (id := 34) (GE.reg_of (by kernel_rfl)) (by kernel_rfl)
theorem n6_119s : codeB Try.prog E ⟨f, 159, b, ro⟩ n6_119 st = plainS (runOps Try.prog E b q6_119 (ops [true, true, true, true, true, true, true, true, true, false, true, false, false, true, true, false, true] Try.f6) st) := GE.region_step (id := 35) (GE.reg_of (by kernel_rfl)) (by kernel_rfl)
theorem n6_117s : codeB Try.prog E cx n6_117 st = thenS (codeB Try.prog E cx n6_118 st) (codeB Try.prog E cx n6_119) := GE.seq_step (by kernel_rfl)
theorem n6_116s : codeB Try.prog E cx n6_116 st = blockS 7 (codeB Try.prog E cx n6_117 st) st := GE.block_step (by kernel_rfl)
theorem n6_112s : codeB Try.prog E cx n6_112 st = thenS (codeB Try.prog E cx n6_113 st) (codeB Try.prog E cx n6_116) := GE.seq_step (by kernel_rfl)
theorem n6_110s : codeB Try.prog E cx n6_110 st = thenS (codeB Try.prog E cx n6_111 st) (codeB Try.prog E cx n6_112) := GE.seq_step (by kernel_rfl)
theorem n6_109k : LL.kp (⟨6, 159, b, ro⟩ : Cx).fn (4 * rid n6_110 + 3) = some ⟨[3, 4, 14, 119], [⟨4, 0, 1, true⟩]⟩ := by kernel_rfl
theorem n6_109s : codeB Try.prog LL ⟨6, 159, b, ro⟩ n6_109 st = headS b ⟨[3, 4, 14, 119], [⟨4, 0, 1, true⟩]⟩ st (lpB Try.prog LL ⟨6, 159, b, ro⟩ n6_109 n6_110) := GE.lpB_step (by kernel_rfl) (n6_109k b ro)
theorem n6_109g : LL.code ⟨6, 159, b, ro⟩ n6_109 st = headS b ⟨[3, 4, 14, 119], [⟨4, 0, 1, true⟩]⟩ st (lpB Try.prog LL ⟨6, 159, b, ro⟩ n6_109 n6_110) := GE.lpB_again (by kernel_rfl) (n6_109k b ro)
theorem n6_108s : codeB Try.prog E cx n6_108 st = blockS 6 (codeB Try.prog E cx n6_109 st) st := GE.block_step (by kernel_rfl)
theorem n6_106s : codeB Try.prog E cx n6_106 st = thenS (codeB Try.prog E cx n6_107 st) (codeB Try.prog E cx n6_108) := GE.seq_step (by kernel_rfl)
theorem n6_121s : codeB Try.prog E ⟨f, 159, b, ro⟩ n6_121 st = plainS (runOps Try.prog E b q6_121 (ops [true, true, true, true, true, true, true, true, true, true, false] Try.f6) st) := GE.region_step (id := 36) (GE.reg_of (by kernel_rfl)) (by kernel_rfl)
theorem n6_124s : codeB Try.prog E ⟨f, 159, b, ro⟩ n6_124 st = plainS (runOps Try.prog E b q6_124 (ops [true, true, true, true, true, true, true, true, true, true, true, false, false] Try.f6) st) := GE.region_step (id := 37) (GE.reg_of (by kernel_rfl)) (by kernel_rfl)
theorem n6_129s : codeB Try.prog E ⟨f, 159, b, ro⟩ n6_129 st = plainS (runOps Try.prog E b q6_129 (ops [true, true, true, true, true, true, true, true, true, true, true, false, true, false, false, false, false] Try.f6) st) := GE.region_step (id := 38) (GE.reg_of (by kernel_rfl)) (by kernel_rfl)
theorem n6_131s : codeB Try.prog E cx n6_131 st = some (.normal, st) := GE.skip_step (by kernel_rfl)
theorem n6_132s : codeB Try.prog LL ⟨6, 159, b, ro⟩ n6_132 st = normS b ⟨[3, 4, 14, 16], [⟨4, 0, 1, true⟩]⟩ (.exit 8) st := GE.exit_step (by kernel_rfl) (by kernel_rfl)
theorem n6_130s : codeB Try.prog E cx n6_130 st = condS (codeB Try.prog E cx n6_131) (codeB Try.prog E cx n6_132) (lk st.σ 131) st := GE.cond_step (c := .tmp 131) (by kernel_rfl)
theorem n6_128s : codeB Try.prog E cx n6_128 st = thenS (codeB Try.prog E cx n6_129 st) (codeB Try.prog E cx n6_130) := GE.seq_step (by kernel_rfl)
theorem n6_136s : codeB Try.prog E ⟨f, 159, b, ro⟩ n6_136 st = plainS (runOps Try.prog E b q6_136 (ops [true, true, true, true, true, true, true, true, true, true, true, false, true, false, false, true, false, false, false] Try.f6) st) := GE.region_step (id := 40) (GE.reg_of (by kernel_rfl)) (by kernel_rfl)
theorem n6_138s : codeB Try.prog E ⟨f, 159, b, ro⟩ n6_138 st = plainS (runOps Try.prog E b q6_138 (ops [true, true, true, true, true, true, true, true, true, true, true, false, true, false, false, true, false, false, true, false] Try.f6) st) := GE.region_step (id := 41) (GE.reg_of (by kernel_rfl)) (by kernel_rfl)
theorem n6_139s : codeB Try.prog E cx n6_139 st = some (.normal, st) := GE.skip_step (by kernel_rfl)
theorem n6_137s : codeB Try.prog E cx n6_137 st = condS (codeB Try.prog E cx n6_138) (codeB Try.prog E cx n6_139) (lk st.σ 137) st := GE.cond_step (c := .tmp 137) (by kernel_rfl)
theorem n6_135s : codeB Try.prog E cx n6_135 st = thenS (codeB Try.prog E cx n6_136 st) (codeB Try.prog E cx n6_137) := GE.seq_step (by kernel_rfl)
theorem n6_134s : codeB Try.prog E cx n6_134 st = blockS 9 (codeB Try.prog E cx n6_135 st) st := GE.block_step (by kernel_rfl)
theorem n6_140s : codeB Try.prog E ⟨f, 159, b, ro⟩ n6_140 st = plainS (runOps Try.prog E b q6_140 (ops [true, true, true, true, true, true, true, true, true, true, true, false, true, false, false, true, true] Try.f6) st) := GE.region_step (id := 39) (GE.reg_of (by kernel_rfl)) (by kernel_rfl)
theorem n6_133s : codeB Try.prog E cx n6_133 st = thenS (codeB Try.prog E cx n6_134 st) (codeB Try.prog E cx n6_140) := GE.seq_step (by kernel_rfl)
theorem n6_127s : codeB Try.prog E cx n6_127 st = thenS (codeB Try.prog E cx n6_128 st) (codeB Try.prog E cx n6_133) := GE.seq_step (by kernel_rfl)
theorem n6_126k : LL.kp (⟨6, 159, b, ro⟩ : Cx).fn (4 * rid n6_127 + 3) = some ⟨[3, 4, 14, 16, 17], [⟨4, 0, 1, true⟩]⟩ := by kernel_rfl
theorem n6_126s : codeB Try.prog LL ⟨6, 159, b, ro⟩ n6_126 st = headS b ⟨[3, 4, 14, 16, 17], [⟨4, 0, 1, true⟩]⟩ st (lpB Try.prog LL ⟨6, 159, b, ro⟩ n6_126 n6_127) := GE.lpB_step (by kernel_rfl) (n6_126k b ro)
theorem n6_126g : LL.code ⟨6, 159, b, ro⟩ n6_126 st = headS b ⟨[3, 4, 14, 16, 17], [⟨4, 0, 1, true⟩]⟩ st (lpB Try.prog LL ⟨6, 159, b, ro⟩ n6_126 n6_127) := GE.lpB_again (by kernel_rfl) (n6_126k b ro)
theorem n6_125s : codeB Try.prog E cx n6_125 st = blockS 8 (codeB Try.prog E cx n6_126 st) st := GE.block_step (by kernel_rfl)
theorem n6_123s : codeB Try.prog E cx n6_123 st = thenS (codeB Try.prog E cx n6_124 st) (codeB Try.prog E cx n6_125) := GE.seq_step (by kernel_rfl)
theorem q6_142g8 : gd q6_142 8 = some 147 := by kernel_rfl
theorem q6_142g17 : gd q6_142 17 = some 156 := by kernel_rfl
theorem n6_142s : codeB Try.prog E ⟨f, 159, b, ro⟩ n6_142 st = drawS [0, 0, 2, 6, 15, 31, 0, 127, 255, 511, 1023, 2047, 511, 511, 12799, 32767, 65535, 131071, 262143, 524287, 1048575] (runOpsF Try.prog E b q6_142 (ops [true, true, true, true, true, true, true, true, true, true, true, true, false] Try.f6) st) := GE.draw_step (id := 42) (GE.reg_of (by kernel_rfl)) (by kernel_rfl) (by kernel_rfl) (by kernel_rfl)
theorem n6_143s : codeB Try.prog LL ⟨6, 159, b, ro⟩ n6_143 st = normS b ⟨[2], []⟩ .ret st := GE.ret_step (by kernel_rfl) (by kernel_rfl)
theorem n6_141s : codeB Try.prog E cx n6_141 st = thenS (codeB Try.prog E cx n6_142 st) (codeB Try.prog E cx n6_143) := GE.seq_step (by kernel_rfl)
theorem n6_122s : codeB Try.prog E cx n6_122 st = thenS (codeB Try.prog E cx n6_123 st) (codeB Try.prog E cx n6_141) := GE.seq_step (by kernel_rfl)
theorem n6_120s : codeB Try.prog E cx n6_120 st = thenS (codeB Try.prog E cx n6_121 st) (codeB Try.prog E cx n6_122) := GE.seq_step (by kernel_rfl)
theorem n6_105s : codeB Try.prog E cx n6_105 st = thenS (codeB Try.prog E cx n6_106 st) (codeB Try.prog E cx n6_120) := GE.seq_step (by kernel_rfl)
theorem n6_103s : codeB Try.prog E cx n6_103 st = thenS (codeB Try.prog E cx n6_104 st) (codeB Try.prog E cx n6_105) := GE.seq_step (by kernel_rfl)
theorem n6_95s : codeB Try.prog E cx n6_95 st = thenS (codeB Try.prog E cx n6_96 st) (codeB Try.prog E cx n6_103) := GE.seq_step (by kernel_rfl)
theorem n6_24s : codeB Try.prog E cx n6_24 st = thenS (codeB Try.prog E cx n6_25 st) (codeB Try.prog E cx n6_95) := GE.seq_step (by kernel_rfl)
theorem n6_22s : codeB Try.prog E cx n6_22 st = thenS (codeB Try.prog E cx n6_23 st) (codeB Try.prog E cx n6_24) := GE.seq_step (by kernel_rfl)
theorem n6_14s : codeB Try.prog E cx n6_14 st = thenS (codeB Try.prog E cx n6_15 st) (codeB Try.prog E cx n6_22) := GE.seq_step (by kernel_rfl)
theorem n6_6s : codeB Try.prog E cx n6_6 st = thenS (codeB Try.prog E cx n6_7 st) (codeB Try.prog E cx n6_14) := GE.seq_step (by kernel_rfl)
theorem n6_4s : codeB Try.prog E cx n6_4 st = thenS (codeB Try.prog E cx n6_5 st) (codeB Try.prog E cx n6_6) := GE.seq_step (by kernel_rfl)
theorem n6_2s : codeB Try.prog E cx n6_2 st = thenS (codeB Try.prog E cx n6_3 st) (codeB Try.prog E cx n6_4) := GE.seq_step (by kernel_rfl)
theorem n6_0s : codeB Try.prog E cx n6_0 st = thenS (codeB Try.prog E cx n6_1 st) (codeB Try.prog E cx n6_2) := GE.seq_step (by kernel_rfl)
noncomputable def n17_0 : Code := bodyOf Try.f17
noncomputable def n17_1 : Code := cl n17_0
noncomputable def q17_1 : List Oper := opsOf n17_1
noncomputable def n17_2 : Code := cr n17_0
noncomputable def n17_3 : Code := cl n17_2
noncomputable def n17_4 : Code := cl n17_3
noncomputable def n17_5 : Code := cl n17_4
noncomputable def q17_5 : List Oper := opsOf n17_5
noncomputable def n17_6 : Code := cr n17_4
noncomputable def n17_7 : Code := cl n17_6
noncomputable def n17_8 : Code := cl n17_7
noncomputable def q17_8 : List Oper := opsOf n17_8
noncomputable def n17_9 : Code := cr n17_7
noncomputable def n17_10 : Code := cr n17_6
noncomputable def n17_11 : Code := cl n17_10
noncomputable def q17_11 : List Oper := opsOf n17_11
noncomputable def n17_12 : Code := cr n17_10
noncomputable def n17_13 : Code := cl n17_12
noncomputable def n17_14 : Code := cl n17_13
noncomputable def q17_14 : List Oper := opsOf n17_14
noncomputable def n17_15 : Code := cr n17_13
noncomputable def n17_16 : Code := cr n17_12
noncomputable def n17_17 : Code := cr n17_2
noncomputable def n17_18 : Code := cl n17_17
noncomputable def q17_18 : List Oper := opsOf n17_18
noncomputable def n17_19 : Code := cr n17_17
noncomputable def n17_20 : Code := cl n17_19
noncomputable def n17_21 : Code := cl n17_20
noncomputable def q17_21 : List Oper := opsOf n17_21
noncomputable def n17_22 : Code := cr n17_20
noncomputable def n17_23 : Code := cl n17_22
noncomputable def n17_24 : Code := cl n17_23
noncomputable def n17_25 : Code := cl n17_24
noncomputable def n17_26 : Code := cl n17_25
noncomputable def q17_26 : List Oper := opsOf n17_26
noncomputable def n17_27 : Code := cr n17_25
noncomputable def n17_28 : Code := cl n17_27
noncomputable def n17_29 : Code := cr n17_27
noncomputable def n17_30 : Code := cr n17_24
noncomputable def n17_31 : Code := cl n17_30
noncomputable def n17_32 : Code := cl n17_31
noncomputable def q17_32 : List Oper := opsOf n17_32
noncomputable def n17_33 : Code := cr n17_31
noncomputable def n17_34 : Code := cl n17_33
noncomputable def n17_35 : Code := cl n17_34
noncomputable def n17_36 : Code := cl n17_35
noncomputable def n17_37 : Code := cl n17_36
noncomputable def n17_38 : Code := cl n17_37
noncomputable def q17_38 : List Oper := opsOf n17_38
noncomputable def n17_39 : Code := cr n17_37
noncomputable def n17_40 : Code := cl n17_39
noncomputable def n17_41 : Code := cr n17_39
noncomputable def n17_42 : Code := cr n17_36
noncomputable def n17_43 : Code := cl n17_42
noncomputable def n17_44 : Code := cl n17_43
noncomputable def n17_45 : Code := cl n17_44
noncomputable def q17_45 : List Oper := opsOf n17_45
noncomputable def n17_46 : Code := cr n17_44
noncomputable def n17_47 : Code := cl n17_46
noncomputable def q17_47 : List Oper := opsOf n17_47
noncomputable def n17_48 : Code := cr n17_46
noncomputable def q17_48 : List Oper := opsOf n17_48
noncomputable def n17_49 : Code := cr n17_43
noncomputable def q17_49 : List Oper := opsOf n17_49
noncomputable def n17_50 : Code := cr n17_33
noncomputable def n17_51 : Code := cl n17_50
noncomputable def q17_51 : List Oper := opsOf n17_51
noncomputable def n17_52 : Code := cr n17_50
noncomputable def n17_53 : Code := cl n17_52
noncomputable def n17_54 : Code := cl n17_53
noncomputable def n17_55 : Code := cl n17_54
noncomputable def n17_56 : Code := cl n17_55
noncomputable def q17_56 : List Oper := opsOf n17_56
noncomputable def n17_57 : Code := cr n17_55
noncomputable def n17_58 : Code := cl n17_57
noncomputable def n17_59 : Code := cr n17_57
noncomputable def n17_60 : Code := cr n17_54
noncomputable def n17_61 : Code := cl n17_60
noncomputable def n17_62 : Code := cl n17_61
noncomputable def q17_62 : List Oper := opsOf n17_62
noncomputable def n17_63 : Code := cr n17_60
noncomputable def q17_63 : List Oper := opsOf n17_63
noncomputable def n17_64 : Code := cr n17_19
noncomputable def n17_65 : Code := cl n17_64
noncomputable def q17_65 : List Oper := opsOf n17_65
noncomputable def n17_66 : Code := cr n17_64
theorem body17 : Try.f17.body = some n17_0 := by kernel_rfl
theorem run17 (E : Ev) (args : List Value) (h : List Blk) (hl : args.length ≤ 68) : runB Try.prog E 17 args h = endS Try.prog [.tmp 2, .tmp 3] h.length (codeB Try.prog E ⟨17, 68, h.length, none⟩ n17_0 ⟨enumT 0 args, h, []⟩) := GE.run_step Try.func17 body17 (by kernel_rfl) (by decide) (by kernel_rfl) hl
theorem n17_1s : codeB Try.prog E ⟨f, 68, b, ro⟩ n17_1 st = plainS (runOps Try.prog E b q17_1 (ops [false] Try.f17) st) := GE.region_step (id := 0) (GE.reg_of (by kernel_rfl)) (by kernel_rfl)
theorem n17_5s : codeB Try.prog E ⟨f, 68, b, ro⟩ n17_5 st = plainS (runOps Try.prog E b q17_5 (ops [true, false, false, false] Try.f17) st) := GE.region_step (id := 1) (GE.reg_of (by kernel_rfl)) (by kernel_rfl)
theorem n17_8s : codeB Try.prog E ⟨f, 68, b, ro⟩ n17_8 st = plainS (runOps Try.prog E b q17_8 (ops [true, false, false, true, false, false] Try.f17) st) := GE.region_step (id := 2) (GE.reg_of (by kernel_rfl)) (by kernel_rfl)
theorem n17_9s : codeB Try.prog LL ⟨17, 68, b, ro⟩ n17_9 st = normS b ⟨[2, 3], [⟨2, 0, 1, true⟩]⟩ .ret st := GE.ret_step (by kernel_rfl) (by kernel_rfl)
theorem n17_7s : codeB Try.prog E cx n17_7 st = thenS (codeB Try.prog E cx n17_8 st) (codeB Try.prog E cx n17_9) := GE.seq_step (by kernel_rfl)
theorem n17_11s : codeB Try.prog E ⟨f, 68, b, ro⟩ n17_11 st = plainS (runOps Try.prog E b q17_11 (ops [true, false, false, true, true, false] Try.f17) st) := GE.region_step (id := 3) (GE.reg_of (by kernel_rfl)) (by kernel_rfl)
theorem n17_14s : codeB Try.prog E ⟨f, 68, b, ro⟩ n17_14 st = plainS (runOps Try.prog E b q17_14 (ops [true, false, false, true, true, true, false, false] Try.f17) st) := GE.region_step (id := 4) (GE.reg_of (by kernel_rfl)) (by kernel_rfl)
theorem n17_15s : codeB Try.prog LL ⟨17, 68, b, ro⟩ n17_15 st = normS b ⟨[2, 3], [⟨2, 0, 1, true⟩]⟩ .ret st := GE.ret_step (by kernel_rfl) (by kernel_rfl)
theorem n17_13s : codeB Try.prog E cx n17_13 st = thenS (codeB Try.prog E cx n17_14 st) (codeB Try.prog E cx n17_15) := GE.seq_step (by kernel_rfl)
theorem n17_16s : codeB Try.prog E cx n17_16 st = some (.normal, st) := GE.skip_step (by kernel_rfl)
theorem n17_12s : codeB Try.prog E cx n17_12 st = condS (codeB Try.prog E cx n17_13) (codeB Try.prog E cx n17_16) (lk st.σ 13) st := GE.cond_step (c := .tmp 13) (by kernel_rfl)
theorem n17_10s : codeB Try.prog E cx n17_10 st = thenS (codeB Try.prog E cx n17_11 st) (codeB Try.prog E cx n17_12) := GE.seq_step (by kernel_rfl)
theorem n17_6s : codeB Try.prog E cx n17_6 st = condS (codeB Try.prog E cx n17_7) (codeB Try.prog E cx n17_10) (lk st.σ 9) st := GE.cond_step (c := .tmp 9) (by kernel_rfl)
theorem n17_4s : codeB Try.prog E cx n17_4 st = thenS (codeB Try.prog E cx n17_5 st) (codeB Try.prog E cx n17_6) := GE.seq_step (by kernel_rfl)
theorem n17_3s : codeB Try.prog E cx n17_3 st = blockS 0 (codeB Try.prog E cx n17_4 st) st := GE.block_step (by kernel_rfl)
theorem n17_18s : codeB Try.prog E ⟨f, 68, b, ro⟩ n17_18 st = plainS (runOps Try.prog E b q17_18 (ops [true, true, false] Try.f17) st) := GE.region_step (id := 5) (GE.reg_of (by kernel_rfl)) (by kernel_rfl)
theorem n17_21s : codeB Try.prog E ⟨f, 68, b, ro⟩ n17_21 st = plainS (runOps Try.prog E b q17_21 (ops [true, true, true, false, false] Try.f17) st) := GE.region_step (id := 6) (GE.reg_of (by kernel_rfl)) (by kernel_rfl)
theorem n17_26s : codeB Try.prog E ⟨f, 68, b, ro⟩ n17_26 st = plainS (runOps Try.prog E b q17_26 (ops [true, true, true, false, true, false, false, false, false] Try.f17) st) := GE.region_step (id := 7) (GE.reg_of (by kernel_rfl)) (by kernel_rfl)
theorem n17_28s : codeB Try.prog E cx n17_28 st = some (.normal, st) := GE.skip_step (by kernel_rfl)
theorem n17_29s : codeB Try.prog LL ⟨17, 68, b, ro⟩ n17_29 st = normS b ⟨[4], [⟨4, 0, 1, true⟩]⟩ (.exit 1) st := GE.exit_step (by kernel_rfl) (by kernel_rfl)
theorem n17_27s : codeB Try.prog E cx n17_27 st = condS (codeB Try.prog E cx n17_28) (codeB Try.prog E cx n17_29) (lk st.σ 20) st := GE.cond_step (c := .tmp 20) (by kernel_rfl)
theorem n17_25s : codeB Try.prog E cx n17_25 st = thenS (codeB Try.prog E cx n17_26 st) (codeB Try.prog E cx n17_27) := GE.seq_step (by kernel_rfl)
theorem n17_32s : codeB Try.prog E ⟨f, 68, b, ro⟩ n17_32 st = plainS (runOps Try.prog E b q17_32 (ops [true, true, true, false, true, false, false, true, false, false] Try.f17) st) := GE.region_step (id := 8) (GE.reg_of (by kernel_rfl)) (by kernel_rfl)
theorem q17_38g4 : gd q17_38 4 = some 28 := by kernel_rfl
theorem n17_38s : codeB Try.prog E ⟨f, 68, b, ro⟩ n17_38 st = drawS [0, 0, 2, 7, 15, 31, 31, 127, 31, 31, 799, 2047, 4095] (runOpsF Try.prog E b q17_38 (ops [true, true, true, false, true, false, false, true, false, true, false, false, false, false, false] Try.f17) st) := GE.draw_step (id := 9) (GE.reg_of (by kernel_rfl)) (by kernel_rfl) (by kernel_rfl) (by kernel_rfl)
theorem n17_40s : codeB Try.prog E cx n17_40 st = some (.normal, st) := GE.skip_step (by kernel_rfl)
theorem n17_41s : codeB Try.prog LL ⟨17, 68, b, ro⟩ n17_41 st = normS b ⟨[6, 7, 0, 4, 5], [⟨4, 0, 1, true⟩]⟩ (.exit 3) st := GE.exit_step (by kernel_rfl) (by kernel_rfl)
theorem n17_39s : codeB Try.prog E cx n17_39 st = condS (codeB Try.prog E cx n17_40) (codeB Try.prog E cx n17_41) (lk st.σ 36) st := GE.cond_step (c := .tmp 36) (by kernel_rfl)
theorem n17_37s : codeB Try.prog E cx n17_37 st = thenS (codeB Try.prog E cx n17_38 st) (codeB Try.prog E cx n17_39) := GE.seq_step (by kernel_rfl)
theorem n17_45s : codeB Try.prog E ⟨f, 68, b, ro⟩ n17_45 st = drawS [0, 0, 3, 0, 0, 24, 63] (runOpsF Try.prog E b q17_45 (ops [true, true, true, false, true, false, false, true, false, true, false, false, false, true, false, false, false] Try.f17) st) := GE.draw_step (id := 10) (GE.reg_of (by kernel_rfl)) (by kernel_rfl) (by kernel_rfl) (by kernel_rfl)
theorem n17_47s : codeB Try.prog E ⟨f, 68, b, ro⟩ n17_47 st = plainS (runOps Try.prog E b q17_47 (ops [true, true, true, false, true, false, false, true, false, true, false, false, false, true, false, false, true, false] Try.f17) st) := GE.region_step (id := 11) (GE.reg_of (by kernel_rfl)) (by kernel_rfl)
theorem n17_48s : codeB Try.prog E ⟨f, 68, b, ro⟩ n17_48 st = plainS (runOps Try.prog E b q17_48 (ops [true, true, true, false, true, false, false, true, false, true, false, false, false, true, false, false, true, true] Try.f17) st) := GE.region_step (id := 12) (GE.reg_of (by kernel_rfl)) (by kernel_rfl)
theorem n17_46s : codeB Try.prog E cx n17_46 st = condS (codeB Try.prog E cx n17_47) (codeB Try.prog E cx n17_48) (lk st.σ 43) st := GE.cond_step (c := .tmp 43) (by kernel_rfl)
theorem n17_44s : codeB Try.prog E cx n17_44 st = thenS (codeB Try.prog E cx n17_45 st) (codeB Try.prog E cx n17_46) := GE.seq_step (by kernel_rfl)
theorem n17_49s : codeB Try.prog E ⟨f, 68, b, ro⟩ n17_49 st = plainS (runOps Try.prog E b q17_49 (ops [true, true, true, false, true, false, false, true, false, true, false, false, false, true, false, true] Try.f17) st) := GE.region_step (id := 13) (GE.reg_of (by kernel_rfl)) (by kernel_rfl)
theorem n17_43s : codeB Try.prog E cx n17_43 st = thenS (codeB Try.prog E cx n17_44 st) (codeB Try.prog E cx n17_49) := GE.seq_step (by kernel_rfl)
theorem n17_42s : codeB Try.prog E cx n17_42 st = blockS 4 (codeB Try.prog E cx n17_43 st) st := GE.block_step (by kernel_rfl)
theorem n17_36s : codeB Try.prog E cx n17_36 st = thenS (codeB Try.prog E cx n17_37 st) (codeB Try.prog E cx n17_42) := GE.seq_step (by kernel_rfl)
theorem n17_35k : LL.kp (⟨17, 68, b, ro⟩ : Cx).fn (4 * rid n17_36 + 3) = some ⟨[6, 7, 0, 4, 5], [⟨4, 0, 1, true⟩]⟩ := by kernel_rfl
theorem n17_35s : codeB Try.prog LL ⟨17, 68, b, ro⟩ n17_35 st = headS b ⟨[6, 7, 0, 4, 5], [⟨4, 0, 1, true⟩]⟩ st (lpB Try.prog LL ⟨17, 68, b, ro⟩ n17_35 n17_36) := GE.lpB_step (by kernel_rfl) (n17_35k b ro)
theorem n17_35g : LL.code ⟨17, 68, b, ro⟩ n17_35 st = headS b ⟨[6, 7, 0, 4, 5], [⟨4, 0, 1, true⟩]⟩ st (lpB Try.prog LL ⟨17, 68, b, ro⟩ n17_35 n17_36) := GE.lpB_again (by kernel_rfl) (n17_35k b ro)
theorem n17_34s : codeB Try.prog E cx n17_34 st = blockS 3 (codeB Try.prog E cx n17_35 st) st := GE.block_step (by kernel_rfl)
theorem n17_51s : codeB Try.prog E ⟨f, 68, b, ro⟩ n17_51 st = plainS (runOps Try.prog E b q17_51 (ops [true, true, true, false, true, false, false, true, false, true, true, false] Try.f17) st) := GE.region_step (id := 14) (GE.reg_of (by kernel_rfl)) (by kernel_rfl)
theorem n17_56s : codeB Try.prog E ⟨f, 68, b, ro⟩ n17_56 st = plainS (runOps Try.prog E b q17_56 (ops [true, true, true, false, true, false, false, true, false, true, true, true, false, false, false, false] Try.f17) st) := GE.region_step (id := 15) (GE.reg_of (by kernel_rfl)) (by kernel_rfl)
theorem n17_58s : codeB Try.prog E cx n17_58 st = some (.normal, st) := GE.skip_step (by kernel_rfl)
theorem n17_59s : codeB Try.prog LL ⟨17, 68, b, ro⟩ n17_59 st = normS b ⟨[0, 4, 5], [⟨4, 0, 1, true⟩]⟩ (.exit 5) st := GE.exit_step (by kernel_rfl) (by kernel_rfl)
theorem n17_57s : codeB Try.prog E cx n17_57 st = condS (codeB Try.prog E cx n17_58) (codeB Try.prog E cx n17_59) (lk st.σ 54) st := GE.cond_step (c := .tmp 54) (by kernel_rfl)
theorem n17_55s : codeB Try.prog E cx n17_55 st = thenS (codeB Try.prog E cx n17_56 st) (codeB Try.prog E cx n17_57) := GE.seq_step (by kernel_rfl)
theorem n17_62s : codeB Try.prog E ⟨f, 68, b, ro⟩ n17_62 st = plainS (runOps Try.prog E b q17_62 (ops [true, true, true, false, true, false, false, true, false, true, true, true, false, false, true, false, false] Try.f17) st) := GE.region_step (id := 17) (GE.reg_of (by kernel_rfl)) (by kernel_rfl)
theorem n17_61s : codeB Try.prog E cx n17_61 st = blockS 6 (codeB Try.prog E cx n17_62 st) st := GE.block_step (by kernel_rfl)
theorem n17_63s : codeB Try.prog E ⟨f, 68, b, ro⟩ n17_63 st = plainS (runOps Try.prog E b q17_63 (ops [true, true, true, false, true, false, false, true, false, true, true, true, false, false, true, true] Try.f17) st) := GE.region_step (id := 16) (GE.reg_of (by kernel_rfl)) (by kernel_rfl)
theorem n17_60s : codeB Try.prog E cx n17_60 st = thenS (codeB Try.prog E cx n17_61 st) (codeB Try.prog E cx n17_63) := GE.seq_step (by kernel_rfl)
theorem n17_54s : codeB Try.prog E cx n17_54 st = thenS (codeB Try.prog E cx n17_55 st) (codeB Try.prog E cx n17_60) := GE.seq_step (by kernel_rfl)
theorem n17_53k : LL.kp (⟨17, 68, b, ro⟩ : Cx).fn (4 * rid n17_54 + 3) = some ⟨[7, 8, 0, 4, 5], [⟨4, 0, 1, true⟩]⟩ := by kernel_rfl
theorem n17_53s : codeB Try.prog LL ⟨17, 68, b, ro⟩ n17_53 st = headS b ⟨[7, 8, 0, 4, 5], [⟨4, 0, 1, true⟩]⟩ st (lpB Try.prog LL ⟨17, 68, b, ro⟩ n17_53 n17_54) := GE.lpB_step (by kernel_rfl) (n17_53k b ro)
theorem n17_53g : LL.code ⟨17, 68, b, ro⟩ n17_53 st = headS b ⟨[7, 8, 0, 4, 5], [⟨4, 0, 1, true⟩]⟩ st (lpB Try.prog LL ⟨17, 68, b, ro⟩ n17_53 n17_54) := GE.lpB_again (by kernel_rfl) (n17_53k b ro)
theorem n17_52s : codeB Try.prog E cx n17_52 st = blockS 5 (codeB Try.prog E cx n17_53 st) st := GE.block_step (by kernel_rfl)
theorem n17_50s : codeB Try.prog E cx n17_50 st = thenS (codeB Try.prog E cx n17_51 st) (codeB Try.prog E cx n17_52) := GE.seq_step (by kernel_rfl)
theorem n17_33s : codeB Try.prog E cx n17_33 st = thenS (codeB Try.prog E cx n17_34 st) (codeB Try.prog E cx n17_50) := GE.seq_step (by kernel_rfl)
theorem n17_31s : codeB Try.prog E cx n17_31 st = thenS (codeB Try.prog E cx n17_32 st) (codeB Try.prog E cx n17_33) := GE.seq_step (by kernel_rfl)
theorem n17_30s : codeB Try.prog E cx n17_30 st = blockS 2 (codeB Try.prog E cx n17_31 st) st := GE.block_step (by kernel_rfl)
theorem n17_24s : codeB Try.prog E cx n17_24 st = thenS (codeB Try.prog E cx n17_25 st) (codeB Try.prog E cx n17_30) := GE.seq_step (by kernel_rfl)
theorem n17_23k : LL.kp (⟨17, 68, b, ro⟩ : Cx).fn (4 * rid n17_24 + 3) = some ⟨[0, 4, 5], [⟨4, 0, 1, true⟩]⟩ := by kernel_rfl
theorem n17_23s : codeB Try.prog LL ⟨17, 68, b, ro⟩ n17_23 st = headS b ⟨[0, 4, 5], [⟨4, 0, 1, true⟩]⟩ st (lpB Try.prog LL ⟨17, 68, b, ro⟩ n17_23 n17_24) := GE.lpB_step (by kernel_rfl) (n17_23k b ro)
theorem n17_23g : LL.code ⟨17, 68, b, ro⟩ n17_23 st = headS b ⟨[0, 4, 5], [⟨4, 0, 1, true⟩]⟩ st (lpB Try.prog LL ⟨17, 68, b, ro⟩ n17_23 n17_24) := GE.lpB_again (by kernel_rfl) (n17_23k b ro)
theorem n17_22s : codeB Try.prog E cx n17_22 st = blockS 1 (codeB Try.prog E cx n17_23 st) st := GE.block_step (by kernel_rfl)
theorem n17_20s : codeB Try.prog E cx n17_20 st = thenS (codeB Try.prog E cx n17_21 st) (codeB Try.prog E cx n17_22) := GE.seq_step (by kernel_rfl)
theorem n17_65s : codeB Try.prog E ⟨f, 68, b, ro⟩ n17_65 st = plainS (runOps Try.prog E b q17_65 (ops [true, true, true, true, false] Try.f17) st) := GE.region_step (id := 18) (GE.reg_of (by kernel_rfl)) (by kernel_rfl)
theorem n17_66s : codeB Try.prog LL ⟨17, 68, b, ro⟩ n17_66 st = normS b ⟨[2, 3], [⟨2, 0, 1, true⟩]⟩ .ret st := GE.ret_step (by kernel_rfl) (by kernel_rfl)
theorem n17_64s : codeB Try.prog E cx n17_64 st = thenS (codeB Try.prog E cx n17_65 st) (codeB Try.prog E cx n17_66) := GE.seq_step (by kernel_rfl)
theorem n17_19s : codeB Try.prog E cx n17_19 st = thenS (codeB Try.prog E cx n17_20 st) (codeB Try.prog E cx n17_64) := GE.seq_step (by kernel_rfl)
theorem n17_17s : codeB Try.prog E cx n17_17 st = thenS (codeB Try.prog E cx n17_18 st) (codeB Try.prog E cx n17_19) := GE.seq_step (by kernel_rfl)
theorem n17_2s : codeB Try.prog E cx n17_2 st = thenS (codeB Try.prog E cx n17_3 st) (codeB Try.prog E cx n17_17) := GE.seq_step (by kernel_rfl)
theorem n17_0s : codeB Try.prog E cx n17_0 st = thenS (codeB Try.prog E cx n17_1 st) (codeB Try.prog E cx n17_2) := GE.seq_step (by kernel_rfl)
noncomputable def n21_0 : Code := bodyOf Try.f21
noncomputable def n21_1 : Code := cl n21_0
noncomputable def q21_1 : List Oper := opsOf n21_1
noncomputable def n21_2 : Code := cr n21_0
noncomputable def n21_3 : Code := cl n21_2
noncomputable def n21_4 : Code := cl n21_3
noncomputable def q21_4 : List Oper := opsOf n21_4
noncomputable def n21_5 : Code := cr n21_3
noncomputable def n21_6 : Code := cl n21_5
noncomputable def n21_7 : Code := cl n21_6
noncomputable def q21_7 : List Oper := opsOf n21_7
noncomputable def n21_8 : Code := cr n21_6
noncomputable def n21_9 : Code := cr n21_5
noncomputable def n21_10 : Code := cr n21_2
noncomputable def n21_11 : Code := cl n21_10
noncomputable def n21_12 : Code := cl n21_11
noncomputable def q21_12 : List Oper := opsOf n21_12
noncomputable def n21_13 : Code := cr n21_11
noncomputable def n21_14 : Code := cl n21_13
noncomputable def n21_15 : Code := cl n21_14
noncomputable def n21_16 : Code := cl n21_15
noncomputable def n21_17 : Code := cl n21_16
noncomputable def q21_17 : List Oper := opsOf n21_17
noncomputable def n21_18 : Code := cr n21_16
noncomputable def n21_19 : Code := cl n21_18
noncomputable def n21_20 : Code := cr n21_18
noncomputable def n21_21 : Code := cr n21_15
noncomputable def n21_22 : Code := cl n21_21
noncomputable def n21_23 : Code := cl n21_22
noncomputable def n21_24 : Code := cl n21_23
noncomputable def q21_24 : List Oper := opsOf n21_24
noncomputable def n21_25 : Code := cr n21_23
noncomputable def n21_26 : Code := cl n21_25
noncomputable def n21_27 : Code := cl n21_26
noncomputable def q21_27 : List Oper := opsOf n21_27
noncomputable def n21_28 : Code := cr n21_26
noncomputable def n21_29 : Code := cr n21_25
noncomputable def n21_30 : Code := cr n21_21
noncomputable def q21_30 : List Oper := opsOf n21_30
noncomputable def n21_31 : Code := cr n21_10
noncomputable def n21_32 : Code := cl n21_31
noncomputable def q21_32 : List Oper := opsOf n21_32
noncomputable def n21_33 : Code := cr n21_31
theorem body21 : Try.f21.body = some n21_0 := by kernel_rfl
theorem run21 (E : Ev) (args : List Value) (h : List Blk) (hl : args.length ≤ 26) : runB Try.prog E 21 args h = endS Try.prog [.tmp 4] h.length (codeB Try.prog E ⟨21, 26, h.length, none⟩ n21_0 ⟨enumT 0 args, h, []⟩) := GE.run_step Try.func21 body21 (by kernel_rfl) (by decide) (by kernel_rfl) hl
theorem n21_1s : codeB Try.prog E ⟨f, 26, b, ro⟩ n21_1 st = plainS (runOps Try.prog E b q21_1 (ops [false] Try.f21) st) := GE.region_step (id := 0) (GE.reg_of (by kernel_rfl)) (by kernel_rfl)
theorem n21_4s : codeB Try.prog E ⟨f, 26, b, ro⟩ n21_4 st = plainS (runOps Try.prog E b q21_4 (ops [true, false, false] Try.f21) st) := GE.region_step (id := 1) (GE.reg_of (by kernel_rfl)) (by kernel_rfl)
theorem n21_7s : codeB Try.prog E ⟨f, 26, b, ro⟩ n21_7 st = plainS (runOps Try.prog E b q21_7 (ops [true, false, true, false, false] Try.f21) st) := GE.region_step (id := 2) (GE.reg_of (by kernel_rfl)) (by kernel_rfl)
theorem n21_8s : codeB Try.prog LL ⟨21, 26, b, ro⟩ n21_8 st = normS b ⟨[4], []⟩ .ret st := GE.ret_step (by kernel_rfl) (by kernel_rfl)
theorem n21_6s : codeB Try.prog E cx n21_6 st = thenS (codeB Try.prog E cx n21_7 st) (codeB Try.prog E cx n21_8) := GE.seq_step (by kernel_rfl)
theorem n21_9s : codeB Try.prog E cx n21_9 st = some (.normal, st) := GE.skip_step (by kernel_rfl)
theorem n21_5s : codeB Try.prog E cx n21_5 st = condS (codeB Try.prog E cx n21_6) (codeB Try.prog E cx n21_9) (lk st.σ 10) st := GE.cond_step (c := .tmp 10) (by kernel_rfl)
theorem n21_3s : codeB Try.prog E cx n21_3 st = thenS (codeB Try.prog E cx n21_4 st) (codeB Try.prog E cx n21_5) := GE.seq_step (by kernel_rfl)
theorem n21_12s : codeB Try.prog E ⟨f, 26, b, ro⟩ n21_12 st = plainS (runOps Try.prog E b q21_12 (ops [true, true, false, false] Try.f21) st) := GE.region_step (id := 3) (GE.reg_of (by kernel_rfl)) (by kernel_rfl)
theorem n21_17s : codeB Try.prog E ⟨f, 26, b, ro⟩ n21_17 st = plainS (runOps Try.prog E b q21_17 (ops [true, true, false, true, false, false, false, false] Try.f21) st) := GE.region_step (id := 4) (GE.reg_of (by kernel_rfl)) (by kernel_rfl)
theorem n21_19s : codeB Try.prog E cx n21_19 st = some (.normal, st) := GE.skip_step (by kernel_rfl)
theorem n21_20s : codeB Try.prog LL ⟨21, 26, b, ro⟩ n21_20 st = normS b ⟨[], []⟩ (.exit 0) st := GE.exit_step (by kernel_rfl) (by kernel_rfl)
theorem n21_18s : codeB Try.prog E cx n21_18 st = condS (codeB Try.prog E cx n21_19) (codeB Try.prog E cx n21_20) (lk st.σ 14) st := GE.cond_step (c := .tmp 14) (by kernel_rfl)
theorem n21_16s : codeB Try.prog E cx n21_16 st = thenS (codeB Try.prog E cx n21_17 st) (codeB Try.prog E cx n21_18) := GE.seq_step (by kernel_rfl)
theorem n21_24s : codeB Try.prog E ⟨f, 26, b, ro⟩ n21_24 st = drawS [0, 0, 3, 7, 0, 0, 48, 112, 255] (runOpsF Try.prog E b q21_24 (ops [true, true, false, true, false, false, true, false, false, false] Try.f21) st) := GE.draw_step (id := 6) (GE.reg_of (by kernel_rfl)) (by kernel_rfl) (by kernel_rfl) (by kernel_rfl)
theorem n21_27s : codeB Try.prog E ⟨f, 26, b, ro⟩ n21_27 st = plainS (runOps Try.prog E b q21_27 (ops [true, true, false, true, false, false, true, false, false, true, false, false] Try.f21) st) := GE.region_step (id := 7) (GE.reg_of (by kernel_rfl)) (by kernel_rfl)
theorem n21_28s : codeB Try.prog LL ⟨21, 26, b, ro⟩ n21_28 st = normS b ⟨[4], []⟩ .ret st := GE.ret_step (by kernel_rfl) (by kernel_rfl)
theorem n21_26s : codeB Try.prog E cx n21_26 st = thenS (codeB Try.prog E cx n21_27 st) (codeB Try.prog E cx n21_28) := GE.seq_step (by kernel_rfl)
theorem n21_29s : codeB Try.prog E cx n21_29 st = some (.normal, st) := GE.skip_step (by kernel_rfl)
theorem n21_25s : codeB Try.prog E cx n21_25 st = condS (codeB Try.prog E cx n21_26) (codeB Try.prog E cx n21_29) (lk st.σ 25) st := GE.cond_step (c := .tmp 25) (by kernel_rfl)
theorem n21_23s : codeB Try.prog E cx n21_23 st = thenS (codeB Try.prog E cx n21_24 st) (codeB Try.prog E cx n21_25) := GE.seq_step (by kernel_rfl)
theorem n21_22s : codeB Try.prog E cx n21_22 st = blockS 1 (codeB Try.prog E cx n21_23 st) st := GE.block_step (by kernel_rfl)
theorem n21_30s : codeB Try.prog E ⟨f, 26, b, ro⟩ n21_30 st = plainS (runOps Try.prog E b q21_30 (ops [true, true, false, true, false, false, true, true] Try.f21) st) := GE.region_step (id := 5) (GE.reg_of (by kernel_rfl)) (by kernel_rfl)
theorem n21_21s : codeB Try.prog E cx n21_21 st = thenS (codeB Try.prog E cx n21_22 st) (codeB Try.prog E cx n21_30) := GE.seq_step (by kernel_rfl)
theorem n21_15s : codeB Try.prog E cx n21_15 st = thenS (codeB Try.prog E cx n21_16 st) (codeB Try.prog E cx n21_21) := GE.seq_step (by kernel_rfl)
theorem n21_14k : LL.kp (⟨21, 26, b, ro⟩ : Cx).fn (4 * rid n21_15 + 3) = some ⟨[0, 1, 5], [⟨0, 0, 1, true⟩, ⟨1, 0, 1, true⟩]⟩ := by kernel_rfl
theorem n21_14s : codeB Try.prog LL ⟨21, 26, b, ro⟩ n21_14 st = headS b ⟨[0, 1, 5], [⟨0, 0, 1, true⟩, ⟨1, 0, 1, true⟩]⟩ st (lpB Try.prog LL ⟨21, 26, b, ro⟩ n21_14 n21_15) := GE.lpB_step (by kernel_rfl) (n21_14k b ro)
theorem n21_14g : LL.code ⟨21, 26, b, ro⟩ n21_14 st = headS b ⟨[0, 1, 5], [⟨0, 0, 1, true⟩, ⟨1, 0, 1, true⟩]⟩ st (lpB Try.prog LL ⟨21, 26, b, ro⟩ n21_14 n21_15) := GE.lpB_again (by kernel_rfl) (n21_14k b ro)
theorem n21_13s : codeB Try.prog E cx n21_13 st = blockS 0 (codeB Try.prog E cx n21_14 st) st := GE.block_step (by kernel_rfl)
theorem n21_11s : codeB Try.prog E cx n21_11 st = thenS (codeB Try.prog E cx n21_12 st) (codeB Try.prog E cx n21_13) := GE.seq_step (by kernel_rfl)
theorem n21_32s : codeB Try.prog E ⟨f, 26, b, ro⟩ n21_32 st = plainS (runOps Try.prog E b q21_32 (ops [true, true, true, false] Try.f21) st) := GE.region_step (id := 8) (GE.reg_of (by kernel_rfl)) (by kernel_rfl)
theorem n21_33s : codeB Try.prog LL ⟨21, 26, b, ro⟩ n21_33 st = normS b ⟨[4], []⟩ .ret st := GE.ret_step (by kernel_rfl) (by kernel_rfl)
theorem n21_31s : codeB Try.prog E cx n21_31 st = thenS (codeB Try.prog E cx n21_32 st) (codeB Try.prog E cx n21_33) := GE.seq_step (by kernel_rfl)
theorem n21_10s : codeB Try.prog E cx n21_10 st = thenS (codeB Try.prog E cx n21_11 st) (codeB Try.prog E cx n21_31) := GE.seq_step (by kernel_rfl)
theorem n21_2s : codeB Try.prog E cx n21_2 st = thenS (codeB Try.prog E cx n21_3 st) (codeB Try.prog E cx n21_10) := GE.seq_step (by kernel_rfl)
theorem n21_0s : codeB Try.prog E cx n21_0 st = thenS (codeB Try.prog E cx n21_1 st) (codeB Try.prog E cx n21_2) := GE.seq_step (by kernel_rfl)
noncomputable def n33_0 : Code := bodyOf Try.f33
noncomputable def n33_1 : Code := cl n33_0
noncomputable def q33_1 : List Oper := opsOf n33_1
noncomputable def n33_2 : Code := cr n33_0
noncomputable def n33_3 : Code := cl n33_2
noncomputable def q33_3 : List Oper := opsOf n33_3
noncomputable def n33_4 : Code := cr n33_2
noncomputable def n33_5 : Code := cl n33_4
noncomputable def q33_5 : List Oper := opsOf n33_5
noncomputable def n33_6 : Code := cr n33_4
noncomputable def n33_7 : Code := cl n33_6
noncomputable def n33_8 : Code := cl n33_7
noncomputable def q33_8 : List Oper := opsOf n33_8
noncomputable def n33_9 : Code := cr n33_7
noncomputable def n33_10 : Code := cl n33_9
noncomputable def n33_11 : Code := cl n33_10
noncomputable def n33_12 : Code := cl n33_11
noncomputable def q33_12 : List Oper := opsOf n33_12
noncomputable def n33_13 : Code := cr n33_11
noncomputable def n33_14 : Code := cl n33_13
noncomputable def n33_15 : Code := cl n33_14
noncomputable def n33_16 : Code := cr n33_14
noncomputable def n33_17 : Code := cr n33_13
noncomputable def n33_18 : Code := cl n33_17
noncomputable def n33_19 : Code := cl n33_18
noncomputable def n33_20 : Code := cl n33_19
noncomputable def q33_20 : List Oper := opsOf n33_20
noncomputable def n33_21 : Code := cr n33_19
noncomputable def q33_21 : List Oper := opsOf n33_21
noncomputable def n33_22 : Code := cr n33_17
noncomputable def q33_22 : List Oper := opsOf n33_22
noncomputable def n33_23 : Code := cr n33_6
noncomputable def n33_24 : Code := cl n33_23
noncomputable def q33_24 : List Oper := opsOf n33_24
noncomputable def n33_25 : Code := cr n33_23
theorem body33 : Try.f33.body = some n33_0 := by kernel_rfl
theorem run33 (E : Ev) (args : List Value) (h : List Blk) (hl : args.length ≤ 41) : runB Try.prog E 33 args h = endS Try.prog [.tmp 6] h.length (codeB Try.prog E ⟨33, 41, h.length, none⟩ n33_0 ⟨enumT 0 args, h, []⟩) := GE.run_step Try.func33 body33 (by kernel_rfl) (by decide) (by kernel_rfl) hl
theorem n33_1s : codeB Try.prog E ⟨f, 41, b, ro⟩ n33_1 st = plainS (runOps Try.prog E b q33_1 (ops [false] Try.f33) st) := GE.region_step (id := 0) (GE.reg_of (by kernel_rfl)) (by kernel_rfl)
theorem n33_3s : codeB Try.prog E ⟨f, 41, b, ro⟩ n33_3 st = plainS (runOps Try.prog E b q33_3 (ops [true, false] Try.f33) st) := GE.region_step (id := 1) (GE.reg_of (by kernel_rfl)) (by kernel_rfl)
theorem n33_5s : codeB Try.prog E ⟨f, 41, b, ro⟩ n33_5 st = plainS (runOps Try.prog E b q33_5 (ops [true, true, false] Try.f33) st) := GE.region_step (id := 2) (GE.reg_of (by kernel_rfl)) (by kernel_rfl)
theorem n33_8s : codeB Try.prog E ⟨f, 41, b, ro⟩ n33_8 st = plainS (runOps Try.prog E b q33_8 (ops [true, true, true, false, false] Try.f33) st) := GE.region_step (id := 3) (GE.reg_of (by kernel_rfl)) (by kernel_rfl)
theorem n33_12s : codeB Try.prog E ⟨f, 41, b, ro⟩ n33_12 st = plainS (runOps Try.prog E b q33_12 (ops [true, true, true, false, true, false, false, false] Try.f33) st) := GE.region_step (id := 4) (GE.reg_of (by kernel_rfl)) (by kernel_rfl)
theorem n33_15s : codeB Try.prog E cx n33_15 st = some (.normal, st) := GE.skip_step (by kernel_rfl)
theorem n33_16s : codeB Try.prog LL ⟨33, 41, b, ro⟩ n33_16 st = normS b ⟨[8], [⟨8, 0, 1, true⟩]⟩ (.exit 0) st := GE.exit_step (by kernel_rfl) (by kernel_rfl)
theorem n33_14s : codeB Try.prog E cx n33_14 st = condS (codeB Try.prog E cx n33_15) (codeB Try.prog E cx n33_16) (lk st.σ 25) st := GE.cond_step (c := .tmp 25) (by kernel_rfl)
theorem n33_20s : codeB Try.prog E ⟨f, 41, b, ro⟩ n33_20 st = plainS (runOps Try.prog E b q33_20 (ops [true, true, true, false, true, false, false, true, true, false, false, false] Try.f33) st) := GE.region_step (id := 5) (GE.reg_of (by kernel_rfl)) (by kernel_rfl)
theorem n33_21s : codeB Try.prog E ⟨f, 41, b, ro⟩ n33_21 st = plainS (runOps Try.prog E b q33_21 (ops [true, true, true, false, true, false, false, true, true, false, false, true] Try.f33) st) := GE.region_step (id := 6) (GE.reg_of (by kernel_rfl)) (by kernel_rfl)
theorem n33_19s : codeB Try.prog E cx n33_19 st = thenS (codeB Try.prog E cx n33_20 st) (codeB Try.prog E cx n33_21) := GE.seq_step (by kernel_rfl)
theorem n33_18s : codeB Try.prog E cx n33_18 st = blockS 1 (codeB Try.prog E cx n33_19 st) st := GE.block_step (by kernel_rfl)
theorem n33_22s : codeB Try.prog E ⟨f, 41, b, ro⟩ n33_22 st = plainS (runOps Try.prog E b q33_22 (ops [true, true, true, false, true, false, false, true, true, true] Try.f33) st) := GE.region_step (id := 7) (GE.reg_of (by kernel_rfl)) (by kernel_rfl)
theorem n33_17s : codeB Try.prog E cx n33_17 st = thenS (codeB Try.prog E cx n33_18 st) (codeB Try.prog E cx n33_22) := GE.seq_step (by kernel_rfl)
theorem n33_13s : codeB Try.prog E cx n33_13 st = thenS (codeB Try.prog E cx n33_14 st) (codeB Try.prog E cx n33_17) := GE.seq_step (by kernel_rfl)
theorem n33_11s : codeB Try.prog E cx n33_11 st = thenS (codeB Try.prog E cx n33_12 st) (codeB Try.prog E cx n33_13) := GE.seq_step (by kernel_rfl)
theorem n33_10k : LL.kp (⟨33, 41, b, ro⟩ : Cx).fn (4 * rid n33_11 + 3) = some ⟨[3, 8, 23, 24], [⟨8, 0, 1, true⟩]⟩ := by kernel_rfl
theorem n33_10s : codeB Try.prog LL ⟨33, 41, b, ro⟩ n33_10 st = headS b ⟨[3, 8, 23, 24], [⟨8, 0, 1, true⟩]⟩ st (lpB Try.prog LL ⟨33, 41, b, ro⟩ n33_10 n33_11) := GE.lpB_step (by kernel_rfl) (n33_10k b ro)
theorem n33_10g : LL.code ⟨33, 41, b, ro⟩ n33_10 st = headS b ⟨[3, 8, 23, 24], [⟨8, 0, 1, true⟩]⟩ st (lpB Try.prog LL ⟨33, 41, b, ro⟩ n33_10 n33_11) := GE.lpB_again (by kernel_rfl) (n33_10k b ro)
theorem n33_9s : codeB Try.prog E cx n33_9 st = blockS 0 (codeB Try.prog E cx n33_10 st) st := GE.block_step (by kernel_rfl)
theorem n33_7s : codeB Try.prog E cx n33_7 st = thenS (codeB Try.prog E cx n33_8 st) (codeB Try.prog E cx n33_9) := GE.seq_step (by kernel_rfl)
theorem n33_24s : codeB Try.prog E ⟨f, 41, b, ro⟩ n33_24 st = plainS (runOps Try.prog E b q33_24 (ops [true, true, true, true, false] Try.f33) st) := GE.region_step (id := 8) (GE.reg_of (by kernel_rfl)) (by kernel_rfl)
theorem n33_25s : codeB Try.prog LL ⟨33, 41, b, ro⟩ n33_25 st = normS b ⟨[6], []⟩ .ret st := GE.ret_step (by kernel_rfl) (by kernel_rfl)
theorem n33_23s : codeB Try.prog E cx n33_23 st = thenS (codeB Try.prog E cx n33_24 st) (codeB Try.prog E cx n33_25) := GE.seq_step (by kernel_rfl)
theorem n33_6s : codeB Try.prog E cx n33_6 st = thenS (codeB Try.prog E cx n33_7 st) (codeB Try.prog E cx n33_23) := GE.seq_step (by kernel_rfl)
theorem n33_4s : codeB Try.prog E cx n33_4 st = thenS (codeB Try.prog E cx n33_5 st) (codeB Try.prog E cx n33_6) := GE.seq_step (by kernel_rfl)
theorem n33_2s : codeB Try.prog E cx n33_2 st = thenS (codeB Try.prog E cx n33_3 st) (codeB Try.prog E cx n33_4) := GE.seq_step (by kernel_rfl)
theorem n33_0s : codeB Try.prog E cx n33_0 st = thenS (codeB Try.prog E cx n33_1 st) (codeB Try.prog E cx n33_2) := GE.seq_step (by kernel_rfl)
noncomputable def n34_0 : Code := bodyOf Try.f34
noncomputable def n34_1 : Code := cl n34_0
noncomputable def q34_1 : List Oper := opsOf n34_1
noncomputable def n34_2 : Code := cr n34_0
noncomputable def n34_3 : Code := cl n34_2
noncomputable def n34_4 : Code := cl n34_3
noncomputable def q34_4 : List Oper := opsOf n34_4
noncomputable def n34_5 : Code := cr n34_3
noncomputable def n34_6 : Code := cl n34_5
noncomputable def n34_7 : Code := cl n34_6
noncomputable def n34_8 : Code := cl n34_7
noncomputable def n34_9 : Code := cl n34_8
noncomputable def q34_9 : List Oper := opsOf n34_9
noncomputable def n34_10 : Code := cr n34_8
noncomputable def n34_11 : Code := cl n34_10
noncomputable def n34_12 : Code := cr n34_10
noncomputable def n34_13 : Code := cr n34_7
noncomputable def n34_14 : Code := cl n34_13
noncomputable def n34_15 : Code := cl n34_14
noncomputable def n34_16 : Code := cl n34_15
noncomputable def q34_16 : List Oper := opsOf n34_16
noncomputable def n34_17 : Code := cr n34_15
noncomputable def n34_18 : Code := cl n34_17
noncomputable def n34_19 : Code := cl n34_18
noncomputable def q34_19 : List Oper := opsOf n34_19
noncomputable def n34_20 : Code := cr n34_18
noncomputable def n34_21 : Code := cr n34_17
noncomputable def n34_22 : Code := cr n34_13
noncomputable def q34_22 : List Oper := opsOf n34_22
noncomputable def n34_23 : Code := cr n34_2
noncomputable def n34_24 : Code := cl n34_23
noncomputable def q34_24 : List Oper := opsOf n34_24
noncomputable def n34_25 : Code := cr n34_23
theorem body34 : Try.f34.body = some n34_0 := by kernel_rfl
theorem run34 (E : Ev) (args : List Value) (h : List Blk) (hl : args.length ≤ 18) : runB Try.prog E 34 args h = endS Try.prog [.tmp 2] h.length (codeB Try.prog E ⟨34, 18, h.length, none⟩ n34_0 ⟨enumT 0 args, h, []⟩) := GE.run_step Try.func34 body34 (by kernel_rfl) (by decide) (by kernel_rfl) hl
theorem n34_1s : codeB Try.prog E ⟨f, 18, b, ro⟩ n34_1 st = plainS (runOps Try.prog E b q34_1 (ops [false] Try.f34) st) := GE.region_step (id := 0) (GE.reg_of (by kernel_rfl)) (by kernel_rfl)
theorem n34_4s : codeB Try.prog E ⟨f, 18, b, ro⟩ n34_4 st = plainS (runOps Try.prog E b q34_4 (ops [true, false, false] Try.f34) st) := GE.region_step (id := 1) (GE.reg_of (by kernel_rfl)) (by kernel_rfl)
theorem n34_9s : codeB Try.prog E ⟨f, 18, b, ro⟩ n34_9 st = plainS (runOps Try.prog E b q34_9 (ops [true, false, true, false, false, false, false] Try.f34) st) := GE.region_step (id := 2) (GE.reg_of (by kernel_rfl)) (by kernel_rfl)
theorem n34_11s : codeB Try.prog E cx n34_11 st = some (.normal, st) := GE.skip_step (by kernel_rfl)
theorem n34_12s : codeB Try.prog LL ⟨34, 18, b, ro⟩ n34_12 st = normS b ⟨[0], []⟩ (.exit 0) st := GE.exit_step (by kernel_rfl) (by kernel_rfl)
theorem n34_10s : codeB Try.prog E cx n34_10 st = condS (codeB Try.prog E cx n34_11) (codeB Try.prog E cx n34_12) (lk st.σ 7) st := GE.cond_step (c := .tmp 7) (by kernel_rfl)
theorem n34_8s : codeB Try.prog E cx n34_8 st = thenS (codeB Try.prog E cx n34_9 st) (codeB Try.prog E cx n34_10) := GE.seq_step (by kernel_rfl)
theorem n34_16s : codeB Try.prog E ⟨f, 18, b, ro⟩ n34_16 st = plainS (runOps Try.prog E b q34_16 (ops [true, false, true, false, false, true, false, false, false] Try.f34) st) := GE.region_step (id := 4) (GE.reg_of (by kernel_rfl)) (by kernel_rfl)
theorem n34_19s : codeB Try.prog E ⟨f, 18, b, ro⟩ n34_19 st = plainS (runOps Try.prog E b q34_19 (ops [true, false, true, false, false, true, false, false, true, false, false] Try.f34) st) := GE.region_step (id := 5) (GE.reg_of (by kernel_rfl)) (by kernel_rfl)
theorem n34_20s : codeB Try.prog LL ⟨34, 18, b, ro⟩ n34_20 st = normS b ⟨[2], []⟩ .ret st := GE.ret_step (by kernel_rfl) (by kernel_rfl)
theorem n34_18s : codeB Try.prog E cx n34_18 st = thenS (codeB Try.prog E cx n34_19 st) (codeB Try.prog E cx n34_20) := GE.seq_step (by kernel_rfl)
theorem n34_21s : codeB Try.prog E cx n34_21 st = some (.normal, st) := GE.skip_step (by kernel_rfl)
theorem n34_17s : codeB Try.prog E cx n34_17 st = condS (codeB Try.prog E cx n34_18) (codeB Try.prog E cx n34_21) (lk st.σ 14) st := GE.cond_step (c := .tmp 14) (by kernel_rfl)
theorem n34_15s : codeB Try.prog E cx n34_15 st = thenS (codeB Try.prog E cx n34_16 st) (codeB Try.prog E cx n34_17) := GE.seq_step (by kernel_rfl)
theorem n34_14s : codeB Try.prog E cx n34_14 st = blockS 1 (codeB Try.prog E cx n34_15 st) st := GE.block_step (by kernel_rfl)
theorem n34_22s : codeB Try.prog E ⟨f, 18, b, ro⟩ n34_22 st = plainS (runOps Try.prog E b q34_22 (ops [true, false, true, false, false, true, true] Try.f34) st) := GE.region_step (id := 3) (GE.reg_of (by kernel_rfl)) (by kernel_rfl)
theorem n34_13s : codeB Try.prog E cx n34_13 st = thenS (codeB Try.prog E cx n34_14 st) (codeB Try.prog E cx n34_22) := GE.seq_step (by kernel_rfl)
theorem n34_7s : codeB Try.prog E cx n34_7 st = thenS (codeB Try.prog E cx n34_8 st) (codeB Try.prog E cx n34_13) := GE.seq_step (by kernel_rfl)
theorem n34_6k : LL.kp (⟨34, 18, b, ro⟩ : Cx).fn (4 * rid n34_7 + 3) = some ⟨[0, 3], []⟩ := by kernel_rfl
theorem n34_6s : codeB Try.prog LL ⟨34, 18, b, ro⟩ n34_6 st = headS b ⟨[0, 3], []⟩ st (lpB Try.prog LL ⟨34, 18, b, ro⟩ n34_6 n34_7) := GE.lpB_step (by kernel_rfl) (n34_6k b ro)
theorem n34_6g : LL.code ⟨34, 18, b, ro⟩ n34_6 st = headS b ⟨[0, 3], []⟩ st (lpB Try.prog LL ⟨34, 18, b, ro⟩ n34_6 n34_7) := GE.lpB_again (by kernel_rfl) (n34_6k b ro)
theorem n34_5s : codeB Try.prog E cx n34_5 st = blockS 0 (codeB Try.prog E cx n34_6 st) st := GE.block_step (by kernel_rfl)
theorem n34_3s : codeB Try.prog E cx n34_3 st = thenS (codeB Try.prog E cx n34_4 st) (codeB Try.prog E cx n34_5) := GE.seq_step (by kernel_rfl)
theorem n34_24s : codeB Try.prog E ⟨f, 18, b, ro⟩ n34_24 st = plainS (runOps Try.prog E b q34_24 (ops [true, true, false] Try.f34) st) := GE.region_step (id := 6) (GE.reg_of (by kernel_rfl)) (by kernel_rfl)
theorem n34_25s : codeB Try.prog LL ⟨34, 18, b, ro⟩ n34_25 st = normS b ⟨[2], []⟩ .ret st := GE.ret_step (by kernel_rfl) (by kernel_rfl)
theorem n34_23s : codeB Try.prog E cx n34_23 st = thenS (codeB Try.prog E cx n34_24 st) (codeB Try.prog E cx n34_25) := GE.seq_step (by kernel_rfl)
theorem n34_2s : codeB Try.prog E cx n34_2 st = thenS (codeB Try.prog E cx n34_3 st) (codeB Try.prog E cx n34_23) := GE.seq_step (by kernel_rfl)
theorem n34_0s : codeB Try.prog E cx n34_0 st = thenS (codeB Try.prog E cx n34_1 st) (codeB Try.prog E cx n34_2) := GE.seq_step (by kernel_rfl)
noncomputable def n35_0 : Code := bodyOf Try.f35
noncomputable def n35_1 : Code := cl n35_0
noncomputable def q35_1 : List Oper := opsOf n35_1
noncomputable def n35_2 : Code := cr n35_0
noncomputable def n35_3 : Code := cl n35_2
noncomputable def q35_3 : List Oper := opsOf n35_3
noncomputable def n35_4 : Code := cr n35_2
theorem body35 : Try.f35.body = some n35_0 := by kernel_rfl
theorem run35 (E : Ev) (args : List Value) (h : List Blk) (hl : args.length ≤ 12) : runB Try.prog E 35 args h = endS Try.prog [.tmp 4] h.length (codeB Try.prog E ⟨35, 12, h.length, none⟩ n35_0 ⟨enumT 0 args, h, []⟩) := GE.run_step Try.func35 body35 (by kernel_rfl) (by decide) (by kernel_rfl) hl
theorem n35_1s : codeB Try.prog E ⟨f, 12, b, ro⟩ n35_1 st = plainS (runOps Try.prog E b q35_1 (ops [false] Try.f35) st) := GE.region_step (id := 0) (GE.reg_of (by kernel_rfl)) (by kernel_rfl)
theorem n35_3s : codeB Try.prog E ⟨f, 12, b, ro⟩ n35_3 st = drawS [0, 0, 3, 0, 0, 24, 63, 127] (runOpsF Try.prog E b q35_3 (ops [true, false] Try.f35) st) := GE.draw_step (id := 1) (GE.reg_of (by kernel_rfl)) (by kernel_rfl) (by kernel_rfl) (by kernel_rfl)
theorem n35_4s : codeB Try.prog LL ⟨35, 12, b, ro⟩ n35_4 st = normS b ⟨[4], []⟩ .ret st := GE.ret_step (by kernel_rfl) (by kernel_rfl)
theorem n35_2s : codeB Try.prog E cx n35_2 st = thenS (codeB Try.prog E cx n35_3 st) (codeB Try.prog E cx n35_4) := GE.seq_step (by kernel_rfl)
theorem n35_0s : codeB Try.prog E cx n35_0 st = thenS (codeB Try.prog E cx n35_1 st) (codeB Try.prog E cx n35_2) := GE.seq_step (by kernel_rfl)
noncomputable def n42_0 : Code := bodyOf Try.f42
noncomputable def n42_1 : Code := cl n42_0
noncomputable def q42_1 : List Oper := opsOf n42_1
noncomputable def n42_2 : Code := cr n42_0
noncomputable def n42_3 : Code := cl n42_2
noncomputable def n42_4 : Code := cl n42_3
noncomputable def q42_4 : List Oper := opsOf n42_4
noncomputable def n42_5 : Code := cr n42_3
noncomputable def n42_6 : Code := cl n42_5
noncomputable def n42_7 : Code := cl n42_6
noncomputable def n42_8 : Code := cl n42_7
noncomputable def q42_8 : List Oper := opsOf n42_8
noncomputable def n42_9 : Code := cr n42_7
noncomputable def n42_10 : Code := cl n42_9
noncomputable def n42_11 : Code := cl n42_10
noncomputable def n42_12 : Code := cr n42_10
noncomputable def n42_13 : Code := cr n42_9
noncomputable def n42_14 : Code := cl n42_13
noncomputable def n42_15 : Code := cl n42_14
noncomputable def q42_15 : List Oper := opsOf n42_15
noncomputable def n42_16 : Code := cr n42_14
noncomputable def n42_17 : Code := cl n42_16
noncomputable def q42_17 : List Oper := opsOf n42_17
noncomputable def n42_18 : Code := cr n42_16
noncomputable def n42_19 : Code := cl n42_18
noncomputable def n42_20 : Code := cl n42_19
noncomputable def q42_20 : List Oper := opsOf n42_20
noncomputable def n42_21 : Code := cr n42_19
noncomputable def n42_22 : Code := cr n42_18
noncomputable def n42_23 : Code := cr n42_2
noncomputable def n42_24 : Code := cl n42_23
noncomputable def q42_24 : List Oper := opsOf n42_24
noncomputable def n42_25 : Code := cr n42_23
theorem body42 : Try.f42.body = some n42_0 := by kernel_rfl
theorem run42 (E : Ev) (args : List Value) (h : List Blk) (hl : args.length ≤ 16) : runB Try.prog E 42 args h = endS Try.prog [.tmp 4] h.length (codeB Try.prog E ⟨42, 16, h.length, none⟩ n42_0 ⟨enumT 0 args, h, []⟩) := GE.run_step Try.func42 body42 (by kernel_rfl) (by decide) (by kernel_rfl) hl
theorem n42_1s : codeB Try.prog E ⟨f, 16, b, ro⟩ n42_1 st = plainS (runOps Try.prog E b q42_1 (ops [false] Try.f42) st) := GE.region_step (id := 0) (GE.reg_of (by kernel_rfl)) (by kernel_rfl)
theorem n42_4s : codeB Try.prog E ⟨f, 16, b, ro⟩ n42_4 st = plainS (runOps Try.prog E b q42_4 (ops [true, false, false] Try.f42) st) := GE.region_step (id := 1) (GE.reg_of (by kernel_rfl)) (by kernel_rfl)
theorem n42_8s : codeB Try.prog E ⟨f, 16, b, ro⟩ n42_8 st = plainS (runOps Try.prog E b q42_8 (ops [true, false, true, false, false, false] Try.f42) st) := GE.region_step (id := 2) (GE.reg_of (by kernel_rfl)) (by kernel_rfl)
theorem n42_11s : codeB Try.prog E cx n42_11 st = some (.normal, st) := GE.skip_step (by kernel_rfl)
theorem n42_12s : codeB Try.prog LL ⟨42, 16, b, ro⟩ n42_12 st = normS b ⟨[], []⟩ (.exit 0) st := GE.exit_step (by kernel_rfl) (by kernel_rfl)
theorem n42_10s : codeB Try.prog E cx n42_10 st = condS (codeB Try.prog E cx n42_11) (codeB Try.prog E cx n42_12) (lk st.σ 10) st := GE.cond_step (c := .tmp 10) (by kernel_rfl)
theorem n42_15s : codeB Try.prog E ⟨f, 16, b, ro⟩ n42_15 st = plainS (runOps Try.prog E b q42_15 (ops [true, false, true, false, false, true, true, false, false] Try.f42) st) := GE.region_step (id := 3) (GE.reg_of (by kernel_rfl)) (by kernel_rfl)
theorem n42_17s : codeB Try.prog E ⟨f, 16, b, ro⟩ n42_17 st = plainS (runOps Try.prog E b q42_17 (ops [true, false, true, false, false, true, true, false, true, false] Try.f42) st) := GE.region_step (id := 4) (GE.reg_of (by kernel_rfl)) (by kernel_rfl)
theorem n42_20s : codeB Try.prog E ⟨f, 16, b, ro⟩ n42_20 st = plainS (runOps Try.prog E b q42_20 (ops [true, false, true, false, false, true, true, false, true, true, false, false] Try.f42) st) := GE.region_step (id := 5) (GE.reg_of (by kernel_rfl)) (by kernel_rfl)
theorem n42_21s : codeB Try.prog LL ⟨42, 16, b, ro⟩ n42_21 st = normS b ⟨[4], []⟩ .ret st := GE.ret_step (by kernel_rfl) (by kernel_rfl)
theorem n42_19s : codeB Try.prog E cx n42_19 st = thenS (codeB Try.prog E cx n42_20 st) (codeB Try.prog E cx n42_21) := GE.seq_step (by kernel_rfl)
theorem n42_22s : codeB Try.prog E cx n42_22 st = some (.normal, st) := GE.skip_step (by kernel_rfl)
theorem n42_18s : codeB Try.prog E cx n42_18 st = condS (codeB Try.prog E cx n42_19) (codeB Try.prog E cx n42_22) (lk st.σ 15) st := GE.cond_step (c := .tmp 15) (by kernel_rfl)
theorem n42_16s : codeB Try.prog E cx n42_16 st = thenS (codeB Try.prog E cx n42_17 st) (codeB Try.prog E cx n42_18) := GE.seq_step (by kernel_rfl)
theorem n42_14s : codeB Try.prog E cx n42_14 st = thenS (codeB Try.prog E cx n42_15 st) (codeB Try.prog E cx n42_16) := GE.seq_step (by kernel_rfl)
theorem n42_13s : codeB Try.prog E cx n42_13 st = blockS 1 (codeB Try.prog E cx n42_14 st) st := GE.block_step (by kernel_rfl)
theorem n42_9s : codeB Try.prog E cx n42_9 st = thenS (codeB Try.prog E cx n42_10 st) (codeB Try.prog E cx n42_13) := GE.seq_step (by kernel_rfl)
theorem n42_7s : codeB Try.prog E cx n42_7 st = thenS (codeB Try.prog E cx n42_8 st) (codeB Try.prog E cx n42_9) := GE.seq_step (by kernel_rfl)
theorem n42_6k : LL.kp (⟨42, 16, b, ro⟩ : Cx).fn (4 * rid n42_7 + 3) = some ⟨[1, 8], []⟩ := by kernel_rfl
theorem n42_6s : codeB Try.prog LL ⟨42, 16, b, ro⟩ n42_6 st = headS b ⟨[1, 8], []⟩ st (lpB Try.prog LL ⟨42, 16, b, ro⟩ n42_6 n42_7) := GE.lpB_step (by kernel_rfl) (n42_6k b ro)
theorem n42_6g : LL.code ⟨42, 16, b, ro⟩ n42_6 st = headS b ⟨[1, 8], []⟩ st (lpB Try.prog LL ⟨42, 16, b, ro⟩ n42_6 n42_7) := GE.lpB_again (by kernel_rfl) (n42_6k b ro)
theorem n42_5s : codeB Try.prog E cx n42_5 st = blockS 0 (codeB Try.prog E cx n42_6 st) st := GE.block_step (by kernel_rfl)
theorem n42_3s : codeB Try.prog E cx n42_3 st = thenS (codeB Try.prog E cx n42_4 st) (codeB Try.prog E cx n42_5) := GE.seq_step (by kernel_rfl)
theorem n42_24s : codeB Try.prog E ⟨f, 16, b, ro⟩ n42_24 st = plainS (runOps Try.prog E b q42_24 (ops [true, true, false] Try.f42) st) := GE.region_step (id := 6) (GE.reg_of (by kernel_rfl)) (by kernel_rfl)
theorem n42_25s : codeB Try.prog LL ⟨42, 16, b, ro⟩ n42_25 st = normS b ⟨[4], []⟩ .ret st := GE.ret_step (by kernel_rfl) (by kernel_rfl)
theorem n42_23s : codeB Try.prog E cx n42_23 st = thenS (codeB Try.prog E cx n42_24 st) (codeB Try.prog E cx n42_25) := GE.seq_step (by kernel_rfl)
theorem n42_2s : codeB Try.prog E cx n42_2 st = thenS (codeB Try.prog E cx n42_3 st) (codeB Try.prog E cx n42_23) := GE.seq_step (by kernel_rfl)
theorem n42_0s : codeB Try.prog E cx n42_0 st = thenS (codeB Try.prog E cx n42_1 st) (codeB Try.prog E cx n42_2) := GE.seq_step (by kernel_rfl)
theorem ia_46 : aggK Try.prog 46 = some (true, 2) := by kernel_rfl
theorem lk_26 : lenK Try.prog 26 = some .sl := by kernel_rfl
theorem es_26 : elemK Try.prog 26 = some (none, 1) := by kernel_rfl
theorem ze_26 : zeroE Try.prog 26 = some (.string .empty) := by kernel_rfl
theorem ba_26_1 : baseArr (Value.cells (.string .empty)) (1 * 1) = #[(.string .empty)] := by kernel_rfl
theorem ap_26 : apK Try.prog 26 = some (1, 16) := by kernel_rfl
theorem ni_26 : notInt Try.prog 26 = true := by kernel_rfl
theorem ia_9 : aggK Try.prog 9 = some (false, 1) := by kernel_rfl
theorem fa_46_1 : fieldAt Try.prog 46 1 = some (1, 1) := by kernel_rfl
theorem ia_5 : aggK Try.prog 5 = some (false, 1) := by kernel_rfl
theorem cv_5_3 : convK Try.prog 5 3 = some .i64 := by kernel_rfl
theorem lk_51 : lenK Try.prog 51 = some .sl := by kernel_rfl
theorem fa_46_0 : fieldAt Try.prog 46 0 = some (0, 1) := by kernel_rfl
theorem ia_44 : aggK Try.prog 44 = some (false, 1) := by kernel_rfl
theorem cv_44_5 : convK Try.prog 44 5 = some .u8 := by kernel_rfl
theorem es_51 : elemK Try.prog 51 = some (none, 1) := by kernel_rfl
theorem sz_5 : aggSize Try.prog 5 = some 1 := by kernel_rfl

end Go.Proofs.Ytjimphlkhjmaiaa.sw
