/-
  Names for the nodes of the code of some functions (projections of their bodies), the step of each node, and the facts of types that they use.
-/
import Derived.Test.YtjimphlkhjmaiaaKp
namespace Go.Proofs.Ytjimphlkhjmaiaa.sw
open Go.GE
set_option maxRecDepth 100000
variable (E : Ev) (cx : Cx) (st : St) (f nt b : Nat) (ro : Option Nat)
noncomputable def n12_0 : Code := bodyOf Try.f12
noncomputable def n12_1 : Code := cl n12_0
noncomputable def q12_1 : List Oper := opsOf n12_1
noncomputable def n12_2 : Code := cr n12_0
noncomputable def n12_3 : Code := cl n12_2
noncomputable def q12_3 : List Oper := opsOf n12_3
noncomputable def n12_4 : Code := cr n12_2
noncomputable def n12_5 : Code := cl n12_4
noncomputable def q12_5 : List Oper := opsOf n12_5
noncomputable def n12_6 : Code := cr n12_4
noncomputable def n12_7 : Code := cl n12_6
noncomputable def q12_7 : List Oper := opsOf n12_7
noncomputable def n12_8 : Code := cr n12_6
noncomputable def n12_9 : Code := cl n12_8
noncomputable def q12_9 : List Oper := opsOf n12_9
noncomputable def n12_10 : Code := cr n12_8
noncomputable def n12_11 : Code := cl n12_10
noncomputable def n12_12 : Code := cl n12_11
noncomputable def q12_12 : List Oper := opsOf n12_12
noncomputable def n12_13 : Code := cr n12_11
noncomputable def n12_14 : Code := cl n12_13
noncomputable def n12_15 : Code := cl n12_14
noncomputable def n12_16 : Code := cl n12_15
noncomputable def q12_16 : List Oper := opsOf n12_16
noncomputable def n12_17 : Code := cr n12_15
noncomputable def n12_18 : Code := cl n12_17
noncomputable def n12_19 : Code := cl n12_18
noncomputable def n12_20 : Code := cr n12_18
noncomputable def n12_21 : Code := cr n12_17
noncomputable def n12_22 : Code := cl n12_21
noncomputable def n12_23 : Code := cl n12_22
noncomputable def n12_24 : Code := cl n12_23
noncomputable def q12_24 : List Oper := opsOf n12_24
noncomputable def n12_25 : Code := cr n12_23
noncomputable def n12_26 : Code := cl n12_25
noncomputable def q12_26 : List Oper := opsOf n12_26
noncomputable def n12_27 : Code := cr n12_25
noncomputable def n12_28 : Code := cl n12_27
noncomputable def q12_28 : List Oper := opsOf n12_28
noncomputable def n12_29 : Code := cr n12_27
noncomputable def n12_30 : Code := cr n12_21
noncomputable def q12_30 : List Oper := opsOf n12_30
noncomputable def n12_31 : Code := cr n12_10
noncomputable def n12_32 : Code := cl n12_31
noncomputable def q12_32 : List Oper := opsOf n12_32
noncomputable def n12_33 : Code := cr n12_31
noncomputable def n12_34 : Code := cl n12_33
noncomputable def q12_34 : List Oper := opsOf n12_34
noncomputable def n12_35 : Code := cr n12_33
noncomputable def n12_36 : Code := cl n12_35
noncomputable def n12_37 : Code := cl n12_36
noncomputable def q12_37 : List Oper := opsOf n12_37
noncomputable def n12_38 : Code := cr n12_36
noncomputable def n12_39 : Code := cl n12_38
noncomputable def n12_40 : Code := cl n12_39
noncomputable def q12_40 : List Oper := opsOf n12_40
noncomputable def n12_41 : Code := cr n12_39
noncomputable def n12_42 : Code := cr n12_38
noncomputable def n12_43 : Code := cr n12_35
noncomputable def n12_44 : Code := cl n12_43
noncomputable def q12_44 : List Oper := opsOf n12_44
noncomputable def n12_45 : Code := cr n12_43
noncomputable def n12_46 : Code := cl n12_45
noncomputable def n12_47 : Code := cl n12_46
noncomputable def q12_47 : List Oper := opsOf n12_47
noncomputable def n12_48 : Code := cr n12_46
noncomputable def n12_49 : Code := cl n12_48
noncomputable def n12_50 : Code := cl n12_49
noncomputable def n12_51 : Code := cl n12_50
noncomputable def q12_51 : List Oper := opsOf n12_51
noncomputable def n12_52 : Code := cr n12_50
noncomputable def n12_53 : Code := cl n12_52
noncomputable def n12_54 : Code := cl n12_53
noncomputable def n12_55 : Code := cr n12_53
noncomputable def n12_56 : Code := cr n12_52
noncomputable def n12_57 : Code := cl n12_56
noncomputable def n12_58 : Code := cl n12_57
noncomputable def n12_59 : Code := cl n12_58
noncomputable def q12_59 : List Oper := opsOf n12_59
noncomputable def n12_60 : Code := cr n12_58
noncomputable def n12_61 : Code := cl n12_60
noncomputable def q12_61 : List Oper := opsOf n12_61
noncomputable def n12_62 : Code := cr n12_60
noncomputable def n12_63 : Code := cl n12_62
noncomputable def n12_64 : Code := cl n12_63
noncomputable def q12_64 : List Oper := opsOf n12_64
noncomputable def n12_65 : Code := cr n12_63
noncomputable def n12_66 : Code := cl n12_65
noncomputable def n12_67 : Code := cl n12_66
noncomputable def n12_68 : Code := cl n12_67
noncomputable def q12_68 : List Oper := opsOf n12_68
noncomputable def n12_69 : Code := cr n12_67
noncomputable def n12_70 : Code := cl n12_69
noncomputable def n12_71 : Code := cl n12_70
noncomputable def n12_72 : Code := cr n12_70
noncomputable def n12_73 : Code := cr n12_69
noncomputable def n12_74 : Code := cl n12_73
noncomputable def n12_75 : Code := cl n12_74
noncomputable def n12_76 : Code := cl n12_75
noncomputable def q12_76 : List Oper := opsOf n12_76
noncomputable def n12_77 : Code := cr n12_75
noncomputable def q12_77 : List Oper := opsOf n12_77
noncomputable def n12_78 : Code := cr n12_73
noncomputable def q12_78 : List Oper := opsOf n12_78
noncomputable def n12_79 : Code := cr n12_62
noncomputable def n12_80 : Code := cl n12_79
noncomputable def q12_80 : List Oper := opsOf n12_80
noncomputable def n12_81 : Code := cr n12_79
noncomputable def n12_82 : Code := cl n12_81
noncomputable def n12_83 : Code := cl n12_82
noncomputable def q12_83 : List Oper := opsOf n12_83
noncomputable def n12_84 : Code := cr n12_82
noncomputable def n12_85 : Code := cr n12_81
noncomputable def n12_86 : Code := cr n12_56
noncomputable def q12_86 : List Oper := opsOf n12_86
noncomputable def n12_87 : Code := cr n12_45
noncomputable def n12_88 : Code := cl n12_87
noncomputable def q12_88 : List Oper := opsOf n12_88
noncomputable def n12_89 : Code := cr n12_87
noncomputable def n12_90 : Code := cl n12_89
noncomputable def n12_91 : Code := cl n12_90
noncomputable def q12_91 : List Oper := opsOf n12_91
noncomputable def n12_92 : Code := cr n12_90
noncomputable def n12_93 : Code := cl n12_92
noncomputable def n12_94 : Code := cl n12_93
noncomputable def q12_94 : List Oper := opsOf n12_94
noncomputable def n12_95 : Code := cr n12_93
noncomputable def n12_96 : Code := cr n12_92
noncomputable def n12_97 : Code := cr n12_89
noncomputable def n12_98 : Code := cl n12_97
noncomputable def q12_98 : List Oper := opsOf n12_98
noncomputable def n12_99 : Code := cr n12_97
theorem body12 : Try.f12.body = some n12_0 := by kernel_rfl
theorem run12 (E : Ev) (args : List Value) (h : List Blk) (hl : args.length ≤ 213) : runB Try.prog E 12 args h = endS Try.prog [.tmp 8] h.length (codeB Try.prog E ⟨12, 213, h.length, none⟩ n12_0 ⟨enumT 0 args, h, []⟩) := GE.run_step Try.func12 body12 (by kernel_rfl) (by decide) (by kernel_rfl) hl
theorem n12_1s : codeB Try.prog E ⟨f, 213, b, ro⟩ n12_1 st = plainS (runOps Try.prog E b q12_1 (ops [false] Try.f12) st) := GE.region_step (id := 0) (GE.reg_of (by kernel_rfl)) (by kernel_rfl)
theorem n12_3s : codeB Try.prog E ⟨f, 213, b, ro⟩ n12_3 st = plainS (runOps Try.prog E b q12_3 (ops [true, false] Try.f12) st) := GE.region_step (id := 1) (GE.reg_of (by kernel_rfl)) (by kernel_rfl)
theorem n12_5s : codeB Try.prog E ⟨f, 213, b, ro⟩ n12_5 st = plainS (runOps Try.prog E b q12_5 (ops [true, true, false] Try.f12) st) := GE.region_step (id := 2) (GE.reg_of (by kernel_rfl)) (by kernel_rfl)
theorem n12_7s : codeB Try.prog E ⟨f, 213, b, ro⟩ n12_7 st = plainS (runOps Try.prog E b q12_7 (ops [true, true, true, false] Try.f12) st) := GE.region_step (id := 3) (GE.reg_of (by kernel_rfl)) (by kernel_rfl)
theorem n12_9s : codeB Try.prog E ⟨f, 213, b, ro⟩ n12_9 st = plainS (runOps Try.prog E b q12_9 (ops [true, true, true, true, false] Try.f12) st) := GE.region_step (id := 4) (GE.reg_of (by kernel_rfl)) (by kernel_rfl)
theorem n12_12s : codeB Try.prog E ⟨f, 213, b, ro⟩ n12_12 st = plainS (runOps Try.prog E b q12_12 (ops [true, true, true, true, true, false, false] Try.f12) st) := GE.region_step (id := 5) (GE.reg_of (by kernel_rfl)) (by kernel_rfl)
theorem n12_16s : codeB Try.prog E ⟨f, 213, b, ro⟩ n12_16 st = plainS (runOps Try.prog E b q12_16 (ops [true, true, true, true, true, false, true, false, false, false] Try.f12) st) := GE.region_step (id := 6) (GE.reg_of (by kernel_rfl)) (by kernel_rfl)
theorem n12_19s : codeB Try.prog E cx n12_19 st = some (.normal, st) := GE.skip_step (by kernel_rfl)
theorem n12_20s : codeB Try.prog LL ⟨12, 213, b, ro⟩ n12_20 st = normS b ⟨[9, 10, 11, 12, 13, 14], [⟨12, 0, 1, true⟩, ⟨13, 0, 1, true⟩]⟩ (.exit 0) st := GE.exit_step (by kernel_rfl) (by kernel_rfl)
theorem n12_18s : codeB Try.prog E cx n12_18 st = condS (codeB Try.prog E cx n12_19) (codeB Try.prog E cx n12_20) (lk st.σ 55) st := GE.cond_step (c := .tmp 55) (by kernel_rfl)
theorem n12_24s : codeB Try.prog E ⟨f, 213, b, ro⟩ n12_24 st = plainS (runOps Try.prog E b q12_24 (ops [true, true, true, true, true, false, true, false, false, true, true, false, false, false] Try.f12) st) := GE.region_step (id := 7) (GE.reg_of (by kernel_rfl)) (by kernel_rfl)
theorem n12_26s : codeB Try.prog E ⟨f, 213, b, ro⟩ n12_26 st = plainS (runOps Try.prog E b q12_26 (ops [true, true, true, true, true, false, true, false, false, true, true, false, false, true, false] Try.f12) st) := GE.region_step (id := 8) (GE.reg_of (by kernel_rfl)) (by kernel_rfl)
theorem n12_28s : codeB Try.prog E ⟨f, 213, b, ro⟩ n12_28 st = plainS (runOps Try.prog E b q12_28 (ops [true, true, true, true, true, false, true, false, false, true, true, false, false, true, true, false] Try.f12) st) := GE.region_step (id := 9) (GE.reg_of (by kernel_rfl)) (by kernel_rfl)
theorem n12_29s : codeB Try.prog E cx n12_29 st = some (.normal, st) := GE.skip_step (by kernel_rfl)
theorem n12_27s : codeB Try.prog E cx n12_27 st = condS (codeB Try.prog E cx n12_28) (codeB Try.prog E cx n12_29) (lk st.σ 61) st := GE.cond_step (c := .tmp 61) (by kernel_rfl)
theorem n12_25s : codeB Try.prog E cx n12_25 st = thenS (codeB Try.prog E cx n12_26 st) (codeB Try.prog E cx n12_27) := GE.seq_step (by kernel_rfl)
theorem n12_23s : codeB Try.prog E cx n12_23 st = thenS (codeB Try.prog E cx n12_24 st) (codeB Try.prog E cx n12_25) := GE.seq_step (by kernel_rfl)
theorem n12_22s : codeB Try.prog E cx n12_22 st = blockS 1 (codeB Try.prog E cx n12_23 st) st := GE.block_step (by kernel_rfl)
theorem n12_30s : codeB Try.prog E ⟨f, 213, b, ro⟩ n12_30 st = plainS (runOps Try.prog E b q12_30 (ops [true, true, true, true, true, false, true, false, false, true, true, true] Try.f12) st) := GE.region_step (id := 10) (GE.reg_of (by kernel_rfl)) (by kernel_rfl)
theorem n12_21s : codeB Try.prog E cx n12_21 st = thenS (codeB Try.prog E cx n12_22 st) (codeB Try.prog E cx n12_30) := GE.seq_step (by kernel_rfl)
theorem n12_17s : codeB Try.prog E cx n12_17 st = thenS (codeB Try.prog E cx n12_18 st) (codeB Try.prog E cx n12_21) := GE.seq_step (by kernel_rfl)
theorem n12_15s : codeB Try.prog E cx n12_15 st = thenS (codeB Try.prog E cx n12_16 st) (codeB Try.prog E cx n12_17) := GE.seq_step (by kernel_rfl)
theorem n12_14k : LL.kp (⟨12, 213, b, ro⟩ : Cx).fn (4 * rid n12_15 + 3) = some ⟨[3, 9, 10, 11, 12, 13, 14, 53, 54], [⟨12, 0, 1, true⟩, ⟨13, 0, 1, true⟩]⟩ := by kernel_rfl
theorem n12_14s : codeB Try.prog LL ⟨12, 213, b, ro⟩ n12_14 st = headS b ⟨[3, 9, 10, 11, 12, 13, 14, 53, 54], [⟨12, 0, 1, true⟩, ⟨13, 0, 1, true⟩]⟩ st (lpB Try.prog LL ⟨12, 213, b, ro⟩ n12_14 n12_15) := GE.lpB_step (by kernel_rfl) (n12_14k b ro)
theorem n12_14g : LL.code ⟨12, 213, b, ro⟩ n12_14 st = headS b ⟨[3, 9, 10, 11, 12, 13, 14, 53, 54], [⟨12, 0, 1, true⟩, ⟨13, 0, 1, true⟩]⟩ st (lpB Try.prog LL ⟨12, 213, b, ro⟩ n12_14 n12_15) := GE.lpB_again (by kernel_rfl) (n12_14k b ro)
theorem n12_13s : codeB Try.prog E cx n12_13 st = blockS 0 (codeB Try.prog E cx n12_14 st) st := GE.block_step (by kernel_rfl)
theorem n12_11s : codeB Try.prog E cx n12_11 st = thenS (codeB Try.prog E cx n12_12 st) (codeB Try.prog E cx n12_13) := GE.seq_step (by kernel_rfl)
theorem n12_32s : codeB Try.prog E ⟨f, 213, b, ro⟩ n12_32 st = plainS (runOps Try.prog E b q12_32 (ops [true, true, true, true, true, true, false] Try.f12) st) := GE.region_step (id := 11) (GE.reg_of (by kernel_rfl)) (by kernel_rfl)
theorem n12_34s : codeB Try.prog E ⟨f, 213, b, ro⟩ n12_34 st = plainS (runOps Try.prog E b q12_34 (ops [true, true, true, true, true, true, true, false] Try.f12) st) := GE.region_step (id := 12) (GE.reg_of (by kernel_rfl)) (by kernel_rfl)
theorem q12_37g2 : gd q12_37 2 = some 86 := by kernel_rfl
theorem q12_37g6 : gd q12_37 6 = some 90 := by kernel_rfl
theorem n12_37s : codeB Try.prog E ⟨f, 213, b, ro⟩ n12_37 st = plainS (runOps Try.prog E b q12_37 (ops [true, true, true, true, true, true, true, true, false, false] Try.f12) st) := GE.region_step (id := 13) (GE.reg_of (by kernel_rfl)) (by kernel_rfl)
theorem n12_40s : codeB Try.prog E ⟨f, 213, b, ro⟩ n12_40 st = plainS (runOps Try.prog E b q12_40 (ops [true, true, true, true, true, true, true, true, false, true, false, false] Try.f12) st) := GE.region_step (id := 14) (GE.reg_of (by kernel_rfl)) (by kernel_rfl)
theorem n12_41s : codeB Try.prog LL ⟨12, 213, b, ro⟩ n12_41 st = normS b ⟨[8], []⟩ .ret st := GE.ret_step (by kernel_rfl) (by kernel_rfl)
theorem n12_39s : codeB Try.prog E cx n12_39 st = thenS (codeB Try.prog E cx n12_40 st) (codeB Try.prog E cx n12_41) := GE.seq_step (by kernel_rfl)
theorem n12_42s : codeB Try.prog E cx n12_42 st = some (.normal, st) := GE.skip_step (by kernel_rfl)
theorem n12_38s : codeB Try.prog E cx n12_38 st = condS (codeB Try.prog E cx n12_39) (codeB Try.prog E cx n12_42) (lk st.σ 93) st := GE.cond_step (c := .tmp 93) (by kernel_rfl)
theorem n12_36s : codeB Try.prog E cx n12_36 st = thenS (codeB Try.prog E cx n12_37 st) (codeB Try.prog E cx n12_38) := GE.seq_step (by kernel_rfl)
theorem n12_44s : codeB Try.prog E ⟨f, 213, b, ro⟩ n12_44 st = plainS (runOps Try.prog E b q12_44 (ops [true, true, true, true, true, true, true, true, true, false] Try.f12) st) := GE.region_step (id := 15) (GE.reg_of (by kernel_rfl)) (by kernel_rfl)
theorem n12_47s : codeB Try.prog E ⟨f, 213, b, ro⟩ n12_47 st = plainS (runOps Try.prog E b q12_47 (ops [true, true, true, true, true, true, true, true, true, true, false, false] Try.f12) st) := GE.region_step (id := 16) (GE.reg_of (by kernel_rfl)) (by kernel_rfl)
theorem n12_51s : codeB Try.prog E ⟨f, 213, b, ro⟩ n12_51 st = plainS (runOps Try.prog E b q12_51 (ops [true, true, true, true, true, true, true, true, true, true, false, true, false, false, false] Try.f12) st) := GE.region_step (id := 17) (GE.reg_of (by kernel_rfl)) (by kernel_rfl)
theorem n12_54s : codeB Try.prog E cx n12_54 st = some (.normal, st) := GE.skip_step (by kernel_rfl)
theorem n12_55s : codeB Try.prog LL ⟨12, 213, b, ro⟩ n12_55 st = normS b ⟨[9, 10, 11, 13, 16, 20], [⟨13, 0, 1, true⟩, ⟨16, 0, 1, true⟩]⟩ (.exit 2) st := GE.exit_step (by kernel_rfl) (by kernel_rfl)
theorem n12_53s : codeB Try.prog E cx n12_53 st = condS (codeB Try.prog E cx n12_54) (codeB Try.prog E cx n12_55) (lk st.σ 99) st := GE.cond_step (c := .tmp 99) (by kernel_rfl)
theorem n12_59s : codeB Try.prog E ⟨f, 213, b, ro⟩ n12_59 st = plainS (runOps Try.prog E b q12_59 (ops [true, true, true, true, true, true, true, true, true, true, false, true, false, false, true, true, false, false, false] Try.f12) st) := GE.region_step (id := 18) (GE.reg_of (by kernel_rfl)) (by kernel_rfl)
theorem n12_61s : codeB Try.prog E ⟨f, 213, b, ro⟩ n12_61 st = plainS (runOps Try.prog E b q12_61 (ops [true, true, true, true, true, true, true, true, true, true, false, true, false, false, true, true, false, false, true, false] Try.f12) st) := GE.region_step (id := 19) (GE.reg_of (by kernel_rfl)) (by kernel_rfl)
theorem n12_64s : codeB Try.prog E ⟨f, 213, b, ro⟩ n12_64 st = plainS (runOps Try.prog E b q12_64 (ops [true, true, true, true, true, true, true, true, true, true, false, true, false, false, true, true, false, false, true, true, false, false] Try.f12) st) := GE.region_step (id := 20) (GE.reg_of (by kernel_rfl)) (by kernel_rfl)
theorem n12_68s : codeB Try.prog E ⟨f, 213, b, ro⟩ n12_68 st = plainS (runOps Try.prog E b q12_68 (ops [true, true, true, true, true, true, true, true, true, true, false, true, false, false, true, true, false, false, true, true, false, true, false, false, false] Try.f12) st) := GE.region_step (id := 21) (GE.reg_of (by kernel_rfl)) (by kernel_rfl)
theorem n12_71s : codeB Try.prog E cx n12_71 st = some (.normal, st) := GE.skip_step (by kernel_rfl)
theorem n12_72s : codeB Try.prog LL ⟨12, 213, b, ro⟩ n12_72 st = normS b ⟨[21, 22, 23, 9, 10, 11, 12, 13, 16, 18, 20, 96, 97, 98], [⟨12, 0, 1, true⟩, ⟨13, 0, 1, true⟩, ⟨16, 0, 1, true⟩, ⟨18, 0, 1, true⟩, ⟨96, 0, 1, true⟩]⟩ (.exit 4) st := GE.exit_step (by kernel_rfl) (by kernel_rfl)
theorem n12_70s : codeB Try.prog E cx n12_70 st = condS (codeB Try.prog E cx n12_71) (codeB Try.prog E cx n12_72) (lk st.σ 106) st := GE.cond_step (c := .tmp 106) (by kernel_rfl)
theorem n12_76s : codeB Try.prog E ⟨f, 213, b, ro⟩ n12_76 st = plainS (runOps Try.prog E b q12_76 (ops [true, true, true, true, true, true, true, true, true, true, false, true, false, false, true, true, false, false, true, true, false, true, false, false, true, true, false, false, false] Try.f12) st) := GE.region_step (id := 22) (GE.reg_of (by kernel_rfl)) (by kernel_rfl)
theorem q12_77g1 : gd q12_77 1 = some 109 := by kernel_rfl
theorem q12_77g7 : gd q12_77 7 = some 115 := by kernel_rfl
theorem n12_77s : codeB Try.prog E ⟨f, 213, b, ro⟩ n12_77 st = drawS [0, 1, 3, 3, 15, 31, 63, 127, 255, 255, 1023, 2047, 255, 255, 12543, 32767, 65535, 131071, 262143] (runOpsF Try.prog E b q12_77 (ops [true, true, true, true, true, true, true, true, true, true, false, true, false, false, true, true, false, false, true, true, false, true, false, false, true, true, false, false, true] Try.f12) st) := GE.draw_step (id := 23) (GE.reg_of (by kernel_rfl)) (by kernel_rfl) (by kernel_rfl) (by kernel_rfl)
theorem n12_75s : codeB Try.prog E cx n12_75 st = thenS (codeB Try.prog E cx n12_76 st) (codeB Try.prog E cx n12_77) := GE.seq_step (by kernel_rfl)
theorem n12_74s : codeB Try.prog E cx n12_74 st = blockS 5 (codeB Try.prog E cx n12_75 st) st := GE.block_step (by kernel_rfl)
theorem n12_78s : codeB Try.prog E ⟨f, 213, b, ro⟩ n12_78 st = plainS (runOps Try.prog E b q12_78 (ops [true, true, true, true, true, true, true, true, true, true, false, true, false, false, true, true, false, false, true, true, false, true, false, false, true, true, true] Try.f12) st) := GE.region_step (id := 24) (GE.reg_of (by kernel_rfl)) (by kernel_rfl)
theorem n12_73s : codeB Try.prog E cx n12_73 st = thenS (codeB Try.prog E cx n12_74 st) (codeB Try.prog E cx n12_78) := GE.seq_step (by kernel_rfl)
theorem n12_69s : codeB Try.prog E cx n12_69 st = thenS (codeB Try.prog E cx n12_70 st) (codeB Try.prog E cx n12_73) := GE.seq_step (by kernel_rfl)
theorem n12_67s : codeB Try.prog E cx n12_67 st = thenS (codeB Try.prog E cx n12_68 st) (codeB Try.prog E cx n12_69) := GE.seq_step (by kernel_rfl)
theorem n12_66k : LL.kp (⟨12, 213, b, ro⟩ : Cx).fn (4 * rid n12_67 + 3) = some ⟨[21, 22, 23, 104, 105, 9, 10, 11, 12, 13, 16, 18, 20, 96, 97, 98], [⟨12, 0, 1, true⟩, ⟨13, 0, 1, true⟩, ⟨16, 0, 1, true⟩, ⟨18, 0, 1, true⟩, ⟨96, 0, 1, true⟩]⟩ := by kernel_rfl
theorem n12_66s : codeB Try.prog LL ⟨12, 213, b, ro⟩ n12_66 st = headS b ⟨[21, 22, 23, 104, 105, 9, 10, 11, 12, 13, 16, 18, 20, 96, 97, 98], [⟨12, 0, 1, true⟩, ⟨13, 0, 1, true⟩, ⟨16, 0, 1, true⟩, ⟨18, 0, 1, true⟩, ⟨96, 0, 1, true⟩]⟩ st (lpB Try.prog LL ⟨12, 213, b, ro⟩ n12_66 n12_67) := GE.lpB_step (by kernel_rfl) (n12_66k b ro)
theorem n12_66g : LL.code ⟨12, 213, b, ro⟩ n12_66 st = headS b ⟨[21, 22, 23, 104, 105, 9, 10, 11, 12, 13, 16, 18, 20, 96, 97, 98], [⟨12, 0, 1, true⟩, ⟨13, 0, 1, true⟩, ⟨16, 0, 1, true⟩, ⟨18, 0, 1, true⟩, ⟨96, 0, 1, true⟩]⟩ st (lpB Try.prog LL ⟨12, 213, b, ro⟩ n12_66 n12_67) := GE.lpB_again (by kernel_rfl) (n12_66k b ro)
theorem n12_65s : codeB Try.prog E cx n12_65 st = blockS 4 (codeB Try.prog E cx n12_66 st) st := GE.block_step (by kernel_rfl)
theorem n12_63s : codeB Try.prog E cx n12_63 st = thenS (codeB Try.prog E cx n12_64 st) (codeB Try.prog E cx n12_65) := GE.seq_step (by kernel_rfl)
theorem q12_80g6 : gd q12_80 6 = some 133 := by kernel_rfl
theorem q12_80g11 : gd q12_80 11 = some 138 := by kernel_rfl
theorem q12_80g19 : gd q12_80 19 = some 146 := by kernel_rfl
theorem q12_80g24 : gd q12_80 24 = some 151 := by kernel_rfl
theorem q12_80g32 : gd q12_80 32 = some 159 := by kernel_rfl
theorem n12_80s : codeB Try.prog E ⟨f, 213, b, ro⟩ n12_80 st = plainS (runOps Try.prog E b q12_80 (ops [true, true, true, true, true, true, true, true, true, true, false, true, false, false, true, true, false, false, true, true, true, false] Try.f12) st) := GE.region_step (id := 25) (GE.reg_of (by kernel_rfl)) (by kernel_rfl)
theorem n12_83s : codeB Try.prog E ⟨f, 213, b, ro⟩ n12_83 st = plainS (runOps Try.prog E b q12_83 (ops [true, true, true, true, true, true, true, true, true, true, false, true, false, false, true, true, false, false, true, true, true, true, false, false] Try.f12) st) := GE.region_step (id := 26) (GE.reg_of (by kernel_rfl)) (by kernel_rfl)
theorem n12_84s : codeB Try.prog LL ⟨12, 213, b, ro⟩ n12_84 st = normS b ⟨[8], []⟩ .ret st := GE.ret_step (by kernel_rfl) (by kernel_rfl)
theorem n12_82s : codeB Try.prog E cx n12_82 st = thenS (codeB Try.prog E cx n12_83 st) (codeB Try.prog E cx n12_84) := GE.seq_step (by kernel_rfl)
theorem n12_85s : codeB Try.prog E cx n12_85 st = some (.normal, st) := GE.skip_step (by kernel_rfl)
theorem n12_81s : codeB Try.prog E cx n12_81 st = condS (codeB Try.prog E cx n12_82) (codeB Try.prog E cx n12_85) (lk st.σ 173) st := GE.cond_step (c := .tmp 173) (by kernel_rfl)
theorem n12_79s : codeB Try.prog E cx n12_79 st = thenS (codeB Try.prog E cx n12_80 st) (codeB Try.prog E cx n12_81) := GE.seq_step (by kernel_rfl)
theorem n12_62s : codeB Try.prog E cx n12_62 st = thenS (codeB Try.prog E cx n12_63 st) (codeB Try.prog E cx n12_79) := GE.seq_step (by kernel_rfl)
theorem n12_60s : codeB Try.prog E cx n12_60 st = thenS (codeB Try.prog E cx n12_61 st) (codeB Try.prog E cx n12_62) := GE.seq_step (by kernel_rfl)
theorem n12_58s : codeB Try.prog E cx n12_58 st = thenS (codeB Try.prog E cx n12_59 st) (codeB Try.prog E cx n12_60) := GE.seq_step (by kernel_rfl)
theorem n12_57s : codeB Try.prog E cx n12_57 st = blockS 3 (codeB Try.prog E cx n12_58 st) st := GE.block_step (by kernel_rfl)
theorem n12_86s : codeB Try.prog E ⟨f, 213, b, ro⟩ n12_86 st = plainS (runOps Try.prog E b q12_86 (ops [true, true, true, true, true, true, true, true, true, true, false, true, false, false, true, true, true] Try.f12) st) := GE.region_step (id := 27) (GE.reg_of (by kernel_rfl)) (by kernel_rfl)
theorem n12_56s : codeB Try.prog E cx n12_56 st = thenS (codeB Try.prog E cx n12_57 st) (codeB Try.prog E cx n12_86) := GE.seq_step (by kernel_rfl)
theorem n12_52s : codeB Try.prog E cx n12_52 st = thenS (codeB Try.prog E cx n12_53 st) (codeB Try.prog E cx n12_56) := GE.seq_step (by kernel_rfl)
theorem n12_50s : codeB Try.prog E cx n12_50 st = thenS (codeB Try.prog E cx n12_51 st) (codeB Try.prog E cx n12_52) := GE.seq_step (by kernel_rfl)
theorem n12_49k : LL.kp (⟨12, 213, b, ro⟩ : Cx).fn (4 * rid n12_50 + 3) = some ⟨[9, 10, 11, 12, 13, 16, 18, 20, 96, 97, 98], [⟨12, 0, 1, true⟩, ⟨13, 0, 1, true⟩, ⟨16, 0, 1, true⟩, ⟨18, 0, 1, true⟩, ⟨96, 0, 1, true⟩]⟩ := by kernel_rfl
theorem n12_49s : codeB Try.prog LL ⟨12, 213, b, ro⟩ n12_49 st = headS b ⟨[9, 10, 11, 12, 13, 16, 18, 20, 96, 97, 98], [⟨12, 0, 1, true⟩, ⟨13, 0, 1, true⟩, ⟨16, 0, 1, true⟩, ⟨18, 0, 1, true⟩, ⟨96, 0, 1, true⟩]⟩ st (lpB Try.prog LL ⟨12, 213, b, ro⟩ n12_49 n12_50) := GE.lpB_step (by kernel_rfl) (n12_49k b ro)
theorem n12_49g : LL.code ⟨12, 213, b, ro⟩ n12_49 st = headS b ⟨[9, 10, 11, 12, 13, 16, 18, 20, 96, 97, 98], [⟨12, 0, 1, true⟩, ⟨13, 0, 1, true⟩, ⟨16, 0, 1, true⟩, ⟨18, 0, 1, true⟩, ⟨96, 0, 1, true⟩]⟩ st (lpB Try.prog LL ⟨12, 213, b, ro⟩ n12_49 n12_50) := GE.lpB_again (by kernel_rfl) (n12_49k b ro)
theorem n12_48s : codeB Try.prog E cx n12_48 st = blockS 2 (codeB Try.prog E cx n12_49 st) st := GE.block_step (by kernel_rfl)
theorem n12_46s : codeB Try.prog E cx n12_46 st = thenS (codeB Try.prog E cx n12_47 st) (codeB Try.prog E cx n12_48) := GE.seq_step (by kernel_rfl)
theorem n12_88s : codeB Try.prog E ⟨f, 213, b, ro⟩ n12_88 st = plainS (runOps Try.prog E b q12_88 (ops [true, true, true, true, true, true, true, true, true, true, true, false] Try.f12) st) := GE.region_step (id := 28) (GE.reg_of (by kernel_rfl)) (by kernel_rfl)
theorem q12_91g2 : gd q12_91 2 = some 182 := by kernel_rfl
theorem n12_91s : codeB Try.prog E ⟨f, 213, b, ro⟩ n12_91 st = plainS (runOps Try.prog E b q12_91 (ops [true, true, true, true, true, true, true, true, true, true, true, true, false, false] Try.f12) st) := GE.region_step (id := 29) (GE.reg_of (by kernel_rfl)) (by kernel_rfl)
theorem q12_94g3 : gd q12_94 3 = some 190 := by kernel_rfl
theorem q12_94g10 : gd q12_94 10 = some 197 := by kernel_rfl
theorem n12_94s : codeB Try.prog E ⟨f, 213, b, ro⟩ n12_94 st = plainS (runOps Try.prog E b q12_94 (ops [true, true, true, true, true, true, true, true, true, true, true, true, false, true, false, false] Try.f12) st) := GE.region_step (id := 30) (GE.reg_of (by kernel_rfl)) (by kernel_rfl)
theorem n12_95s : codeB Try.prog LL ⟨12, 213, b, ro⟩ n12_95 st = normS b ⟨[8], []⟩ .ret st := GE.ret_step (by kernel_rfl) (by kernel_rfl)
theorem n12_93s : codeB Try.prog E cx n12_93 st = thenS (codeB Try.prog E cx n12_94 st) (codeB Try.prog E cx n12_95) := GE.seq_step (by kernel_rfl)
theorem n12_96s : codeB Try.prog E cx n12_96 st = some (.normal, st) := GE.skip_step (by kernel_rfl)
theorem n12_92s : codeB Try.prog E cx n12_92 st = condS (codeB Try.prog E cx n12_93) (codeB Try.prog E cx n12_96) (lk st.σ 186) st := GE.cond_step (c := .tmp 186) (by kernel_rfl)
theorem n12_90s : codeB Try.prog E cx n12_90 st = thenS (codeB Try.prog E cx n12_91 st) (codeB Try.prog E cx n12_92) := GE.seq_step (by kernel_rfl)
theorem q12_98g4 : gd q12_98 4 = some 204 := by kernel_rfl
theorem q12_98g10 : gd q12_98 10 = some 210 := by kernel_rfl
theorem n12_98s : codeB Try.prog E ⟨f, 213, b, ro⟩ n12_98 st = plainS (runOps Try.prog E b q12_98 (ops [true, true, true, true, true, true, true, true, true, true, true, true, true, false] Try.f12) st) := GE.region_step (id := 31) (GE.reg_of (by kernel_rfl)) (by kernel_rfl)
theorem n12_99s : codeB Try.prog LL ⟨12, 213, b, ro⟩ n12_99 st = normS b ⟨[8], []⟩ .ret st := GE.ret_step (by kernel_rfl) (by kernel_rfl)
theorem n12_97s : codeB Try.prog E cx n12_97 st = thenS (codeB Try.prog E cx n12_98 st) (codeB Try.prog E cx n12_99) := GE.seq_step (by kernel_rfl)
theorem n12_89s : codeB Try.prog E cx n12_89 st = thenS (codeB Try.prog E cx n12_90 st) (codeB Try.prog E cx n12_97) := GE.seq_step (by kernel_rfl)
theorem n12_87s : codeB Try.prog E cx n12_87 st = thenS (codeB Try.prog E cx n12_88 st) (codeB Try.prog E cx n12_89) := GE.seq_step (by kernel_rfl)
theorem n12_45s : codeB Try.prog E cx n12_45 st = thenS (codeB Try.prog E cx n12_46 st) (codeB Try.prog E cx n12_87) := GE.seq_step (by kernel_rfl)
theorem n12_43s : codeB Try.prog E cx n12_43 st = thenS (codeB Try.prog E cx n12_44 st) (codeB Try.prog E cx n12_45) := GE.seq_step (by kernel_rfl)
theorem n12_35s : codeB Try.prog E cx n12_35 st = thenS (codeB Try.prog E cx n12_36 st) (codeB Try.prog E cx n12_43) := GE.seq_step (by kernel_rfl)
theorem n12_33s : codeB Try.prog E cx n12_33 st = thenS (codeB Try.prog E cx n12_34 st) (codeB Try.prog E cx n12_35) := GE.seq_step (by kernel_rfl)
theorem n12_31s : codeB Try.prog E cx n12_31 st = thenS (codeB Try.prog E cx n12_32 st) (codeB Try.prog E cx n12_33) := GE.seq_step (by kernel_rfl)
theorem n12_10s : codeB Try.prog E cx n12_10 st = thenS (codeB Try.prog E cx n12_11 st) (codeB Try.prog E cx n12_31) := GE.seq_step (by kernel_rfl)
theorem n12_8s : codeB Try.prog E cx n12_8 st = thenS (codeB Try.prog E cx n12_9 st) (codeB Try.prog E cx n12_10) := GE.seq_step (by kernel_rfl)
theorem n12_6s : codeB Try.prog E cx n12_6 st = thenS (codeB Try.prog E cx n12_7 st) (codeB Try.prog E cx n12_8) := GE.seq_step (by kernel_rfl)
theorem n12_4s : codeB Try.prog E cx n12_4 st = thenS (codeB Try.prog E cx n12_5 st) (codeB Try.prog E cx n12_6) := GE.seq_step (by kernel_rfl)
theorem n12_2s : codeB Try.prog E cx n12_2 st = thenS (codeB Try.prog E cx n12_3 st) (codeB Try.prog E cx n12_4) := GE.seq_step (by kernel_rfl)
theorem n12_0s : codeB Try.prog E cx n12_0 st = thenS (codeB Try.prog E cx n12_1 st) (codeB Try.prog E cx n12_2) := GE.seq_step (by kernel_rfl)
noncomputable def n19_0 : Code := bodyOf Try.f19
noncomputable def n19_1 : Code := cl n19_0
noncomputable def q19_1 : List Oper := opsOf n19_1
noncomputable def n19_2 : Code := cr n19_0
noncomputable def n19_3 : Code := cl n19_2
noncomputable def n19_4 : Code := cl n19_3
noncomputable def q19_4 : List Oper := opsOf n19_4
noncomputable def n19_5 : Code := cr n19_3
noncomputable def n19_6 : Code := cl n19_5
noncomputable def q19_6 : List Oper := opsOf n19_6
noncomputable def n19_7 : Code := cr n19_5
noncomputable def n19_8 : Code := cl n19_7
noncomputable def n19_9 : Code := cl n19_8
noncomputable def q19_9 : List Oper := opsOf n19_9
noncomputable def n19_10 : Code := cr n19_8
noncomputable def n19_11 : Code := cr n19_7
noncomputable def n19_12 : Code := cr n19_2
noncomputable def n19_13 : Code := cl n19_12
noncomputable def n19_14 : Code := cl n19_13
noncomputable def q19_14 : List Oper := opsOf n19_14
noncomputable def n19_15 : Code := cr n19_13
noncomputable def n19_16 : Code := cl n19_15
noncomputable def n19_17 : Code := cl n19_16
noncomputable def n19_18 : Code := cl n19_17
noncomputable def q19_18 : List Oper := opsOf n19_18
noncomputable def n19_19 : Code := cr n19_17
noncomputable def n19_20 : Code := cl n19_19
noncomputable def n19_21 : Code := cl n19_20
noncomputable def n19_22 : Code := cr n19_20
noncomputable def n19_23 : Code := cr n19_19
noncomputable def n19_24 : Code := cl n19_23
noncomputable def n19_25 : Code := cl n19_24
noncomputable def n19_26 : Code := cl n19_25
noncomputable def q19_26 : List Oper := opsOf n19_26
noncomputable def n19_27 : Code := cr n19_25
noncomputable def n19_28 : Code := cl n19_27
noncomputable def q19_28 : List Oper := opsOf n19_28
noncomputable def n19_29 : Code := cr n19_27
noncomputable def n19_30 : Code := cl n19_29
noncomputable def n19_31 : Code := cl n19_30
noncomputable def q19_31 : List Oper := opsOf n19_31
noncomputable def n19_32 : Code := cr n19_30
noncomputable def n19_33 : Code := cr n19_29
noncomputable def n19_34 : Code := cr n19_23
noncomputable def q19_34 : List Oper := opsOf n19_34
noncomputable def n19_35 : Code := cr n19_12
noncomputable def n19_36 : Code := cl n19_35
noncomputable def q19_36 : List Oper := opsOf n19_36
noncomputable def n19_37 : Code := cr n19_35
theorem body19 : Try.f19.body = some n19_0 := by kernel_rfl
theorem run19 (E : Ev) (args : List Value) (h : List Blk) (hl : args.length ≤ 22) : runB Try.prog E 19 args h = endS Try.prog [.tmp 2, .tmp 3] h.length (codeB Try.prog E ⟨19, 22, h.length, none⟩ n19_0 ⟨enumT 0 args, h, []⟩) := GE.run_step Try.func19 body19 (by kernel_rfl) (by decide) (by kernel_rfl) hl
theorem n19_1s : codeB Try.prog E ⟨f, 22, b, ro⟩ n19_1 st = plainS (runOps Try.prog E b q19_1 (ops [false] Try.f19) st) := GE.region_step (id := 0) (GE.reg_of (by kernel_rfl)) (by kernel_rfl)
theorem n19_4s : codeB Try.prog E ⟨f, 22, b, ro⟩ n19_4 st = plainS (runOps Try.prog E b q19_4 (ops [true, false, false] Try.f19) st) := GE.region_step (id := 1) (GE.reg_of (by kernel_rfl)) (by kernel_rfl)
theorem n19_6s : codeB Try.prog E ⟨f, 22, b, ro⟩ n19_6 st = plainS (runOps Try.prog E b q19_6 (ops [true, false, true, false] Try.f19) st) := GE.region_step (id := 2) (GE.reg_of (by kernel_rfl)) (by kernel_rfl)
theorem n19_9s : codeB Try.prog E ⟨f, 22, b, ro⟩ n19_9 st = plainS (runOps Try.prog E b q19_9 (ops [true, false, true, true, false, false] Try.f19) st) := GE.region_step (id := 3) (GE.reg_of (by kernel_rfl)) (by kernel_rfl)
theorem n19_10s : codeB Try.prog LL ⟨19, 22, b, ro⟩ n19_10 st = normS b ⟨[2, 3], []⟩ .ret st := GE.ret_step (by kernel_rfl) (by kernel_rfl)
theorem n19_8s : codeB Try.prog E cx n19_8 st = thenS (codeB Try.prog E cx n19_9 st) (codeB Try.prog E cx n19_10) := GE.seq_step (by kernel_rfl)
theorem n19_11s : codeB Try.prog E cx n19_11 st = some (.normal, st) := GE.skip_step (by kernel_rfl)
theorem n19_7s : codeB Try.prog E cx n19_7 st = condS (codeB Try.prog E cx n19_8) (codeB Try.prog E cx n19_11) (lk st.σ 9) st := GE.cond_step (c := .tmp 9) (by kernel_rfl)
theorem n19_5s : codeB Try.prog E cx n19_5 st = thenS (codeB Try.prog E cx n19_6 st) (codeB Try.prog E cx n19_7) := GE.seq_step (by kernel_rfl)
theorem n19_3s : codeB Try.prog E cx n19_3 st = thenS (codeB Try.prog E cx n19_4 st) (codeB Try.prog E cx n19_5) := GE.seq_step (by kernel_rfl)
theorem n19_14s : codeB Try.prog E ⟨f, 22, b, ro⟩ n19_14 st = plainS (runOps Try.prog E b q19_14 (ops [true, true, false, false] Try.f19) st) := GE.region_step (id := 4) (GE.reg_of (by kernel_rfl)) (by kernel_rfl)
theorem n19_18s : codeB Try.prog E ⟨f, 22, b, ro⟩ n19_18 st = plainS (runOps Try.prog E b q19_18 (ops [true, true, false, true, false, false, false] Try.f19) st) := GE.region_step (id := 5) (GE.reg_of (by kernel_rfl)) (by kernel_rfl)
theorem n19_21s : codeB Try.prog E cx n19_21 st = some (.normal, st) := GE.skip_step (by kernel_rfl)
theorem n19_22s : codeB Try.prog LL ⟨19, 22, b, ro⟩ n19_22 st = normS b ⟨[], []⟩ (.exit 0) st := GE.exit_step (by kernel_rfl) (by kernel_rfl)
theorem n19_20s : codeB Try.prog E cx n19_20 st = condS (codeB Try.prog E cx n19_21) (codeB Try.prog E cx n19_22) (lk st.σ 15) st := GE.cond_step (c := .tmp 15) (by kernel_rfl)
theorem n19_26s : codeB Try.prog E ⟨f, 22, b, ro⟩ n19_26 st = plainS (runOps Try.prog E b q19_26 (ops [true, true, false, true, false, false, true, true, false, false, false] Try.f19) st) := GE.region_step (id := 6) (GE.reg_of (by kernel_rfl)) (by kernel_rfl)
theorem n19_28s : codeB Try.prog E ⟨f, 22, b, ro⟩ n19_28 st = plainS (runOps Try.prog E b q19_28 (ops [true, true, false, true, false, false, true, true, false, false, true, false] Try.f19) st) := GE.region_step (id := 7) (GE.reg_of (by kernel_rfl)) (by kernel_rfl)
theorem n19_31s : codeB Try.prog E ⟨f, 22, b, ro⟩ n19_31 st = plainS (runOps Try.prog E b q19_31 (ops [true, true, false, true, false, false, true, true, false, false, true, true, false, false] Try.f19) st) := GE.region_step (id := 8) (GE.reg_of (by kernel_rfl)) (by kernel_rfl)
theorem n19_32s : codeB Try.prog LL ⟨19, 22, b, ro⟩ n19_32 st = normS b ⟨[2, 3], []⟩ .ret st := GE.ret_step (by kernel_rfl) (by kernel_rfl)
theorem n19_30s : codeB Try.prog E cx n19_30 st = thenS (codeB Try.prog E cx n19_31 st) (codeB Try.prog E cx n19_32) := GE.seq_step (by kernel_rfl)
theorem n19_33s : codeB Try.prog E cx n19_33 st = some (.normal, st) := GE.skip_step (by kernel_rfl)
theorem n19_29s : codeB Try.prog E cx n19_29 st = condS (codeB Try.prog E cx n19_30) (codeB Try.prog E cx n19_33) (lk st.σ 19) st := GE.cond_step (c := .tmp 19) (by kernel_rfl)
theorem n19_27s : codeB Try.prog E cx n19_27 st = thenS (codeB Try.prog E cx n19_28 st) (codeB Try.prog E cx n19_29) := GE.seq_step (by kernel_rfl)
theorem n19_25s : codeB Try.prog E cx n19_25 st = thenS (codeB Try.prog E cx n19_26 st) (codeB Try.prog E cx n19_27) := GE.seq_step (by kernel_rfl)
theorem n19_24s : codeB Try.prog E cx n19_24 st = blockS 1 (codeB Try.prog E cx n19_25 st) st := GE.block_step (by kernel_rfl)
theorem n19_34s : codeB Try.prog E ⟨f, 22, b, ro⟩ n19_34 st = plainS (runOps Try.prog E b q19_34 (ops [true, true, false, true, false, false, true, true, true] Try.f19) st) := GE.region_step (id := 9) (GE.reg_of (by kernel_rfl)) (by kernel_rfl)
theorem n19_23s : codeB Try.prog E cx n19_23 st = thenS (codeB Try.prog E cx n19_24 st) (codeB Try.prog E cx n19_34) := GE.seq_step (by kernel_rfl)
theorem n19_19s : codeB Try.prog E cx n19_19 st = thenS (codeB Try.prog E cx n19_20 st) (codeB Try.prog E cx n19_23) := GE.seq_step (by kernel_rfl)
theorem n19_17s : codeB Try.prog E cx n19_17 st = thenS (codeB Try.prog E cx n19_18 st) (codeB Try.prog E cx n19_19) := GE.seq_step (by kernel_rfl)
theorem n19_16k : LL.kp (⟨19, 22, b, ro⟩ : Cx).fn (4 * rid n19_17 + 3) = some ⟨[0, 13, 14], []⟩ := by kernel_rfl
theorem n19_16s : codeB Try.prog LL ⟨19, 22, b, ro⟩ n19_16 st = headS b ⟨[0, 13, 14], []⟩ st (lpB Try.prog LL ⟨19, 22, b, ro⟩ n19_16 n19_17) := GE.lpB_step (by kernel_rfl) (n19_16k b ro)
theorem n19_16g : LL.code ⟨19, 22, b, ro⟩ n19_16 st = headS b ⟨[0, 13, 14], []⟩ st (lpB Try.prog LL ⟨19, 22, b, ro⟩ n19_16 n19_17) := GE.lpB_again (by kernel_rfl) (n19_16k b ro)
theorem n19_15s : codeB Try.prog E cx n19_15 st = blockS 0 (codeB Try.prog E cx n19_16 st) st := GE.block_step (by kernel_rfl)
theorem n19_13s : codeB Try.prog E cx n19_13 st = thenS (codeB Try.prog E cx n19_14 st) (codeB Try.prog E cx n19_15) := GE.seq_step (by kernel_rfl)
theorem n19_36s : codeB Try.prog E ⟨f, 22, b, ro⟩ n19_36 st = plainS (runOps Try.prog E b q19_36 (ops [true, true, true, false] Try.f19) st) := GE.region_step (id := 10) (GE.reg_of (by kernel_rfl)) (by kernel_rfl)
theorem n19_37s : codeB Try.prog LL ⟨19, 22, b, ro⟩ n19_37 st = normS b ⟨[2, 3], []⟩ .ret st := GE.ret_step (by kernel_rfl) (by kernel_rfl)
theorem n19_35s : codeB Try.prog E cx n19_35 st = thenS (codeB Try.prog E cx n19_36 st) (codeB Try.prog E cx n19_37) := GE.seq_step (by kernel_rfl)
theorem n19_12s : codeB Try.prog E cx n19_12 st = thenS (codeB Try.prog E cx n19_13 st) (codeB Try.prog E cx n19_35) := GE.seq_step (by kernel_rfl)
theorem n19_2s : codeB Try.prog E cx n19_2 st = thenS (codeB Try.prog E cx n19_3 st) (codeB Try.prog E cx n19_12) := GE.seq_step (by kernel_rfl)
theorem n19_0s : codeB Try.prog E cx n19_0 st = thenS (codeB Try.prog E cx n19_1 st) (codeB Try.prog E cx n19_2) := GE.seq_step (by kernel_rfl)
noncomputable def n22_0 : Code := bodyOf Try.f22
noncomputable def n22_1 : Code := cl n22_0
noncomputable def q22_1 : List Oper := opsOf n22_1
noncomputable def n22_2 : Code := cr n22_0
noncomputable def n22_3 : Code := cl n22_2
noncomputable def n22_4 : Code := cl n22_3
noncomputable def n22_5 : Code := cl n22_4
noncomputable def q22_5 : List Oper := opsOf n22_5
noncomputable def n22_6 : Code := cr n22_4
noncomputable def n22_7 : Code := cl n22_6
noncomputable def n22_8 : Code := cl n22_7
noncomputable def q22_8 : List Oper := opsOf n22_8
noncomputable def n22_9 : Code := cr n22_7
noncomputable def n22_10 : Code := cr n22_6
noncomputable def n22_11 : Code := cl n22_10
noncomputable def q22_11 : List Oper := opsOf n22_11
noncomputable def n22_12 : Code := cr n22_10
noncomputable def n22_13 : Code := cl n22_12
noncomputable def n22_14 : Code := cl n22_13
noncomputable def q22_14 : List Oper := opsOf n22_14
noncomputable def n22_15 : Code := cr n22_13
noncomputable def n22_16 : Code := cr n22_12
noncomputable def n22_17 : Code := cl n22_16
noncomputable def q22_17 : List Oper := opsOf n22_17
noncomputable def n22_18 : Code := cr n22_16
noncomputable def n22_19 : Code := cl n22_18
noncomputable def n22_20 : Code := cl n22_19
noncomputable def q22_20 : List Oper := opsOf n22_20
noncomputable def n22_21 : Code := cr n22_19
noncomputable def n22_22 : Code := cr n22_18
noncomputable def n22_23 : Code := cr n22_2
noncomputable def n22_24 : Code := cl n22_23
noncomputable def q22_24 : List Oper := opsOf n22_24
noncomputable def n22_25 : Code := cr n22_23
theorem body22 : Try.f22.body = some n22_0 := by kernel_rfl
theorem run22 (E : Ev) (args : List Value) (h : List Blk) (hl : args.length ≤ 14) : runB Try.prog E 22 args h = endS Try.prog [.tmp 2] h.length (codeB Try.prog E ⟨22, 14, h.length, none⟩ n22_0 ⟨enumT 0 args, h, []⟩) := GE.run_step Try.func22 body22 (by kernel_rfl) (by decide) (by kernel_rfl) hl
theorem n22_1s : codeB Try.prog E ⟨f, 14, b, ro⟩ n22_1 st = plainS (runOps Try.prog E b q22_1 (ops [false] Try.f22) st) := GE.region_step (id := 0) (GE.reg_of (by kernel_rfl)) (by kernel_rfl)
theorem n22_5s : codeB Try.prog E ⟨f, 14, b, ro⟩ n22_5 st = plainS (runOps Try.prog E b q22_5 (ops [true, false, false, false] Try.f22) st) := GE.region_step (id := 1) (GE.reg_of (by kernel_rfl)) (by kernel_rfl)
theorem n22_8s : codeB Try.prog E ⟨f, 14, b, ro⟩ n22_8 st = plainS (runOps Try.prog E b q22_8 (ops [true, false, false, true, false, false] Try.f22) st) := GE.region_step (id := 2) (GE.reg_of (by kernel_rfl)) (by kernel_rfl)
theorem n22_9s : codeB Try.prog LL ⟨22, 14, b, ro⟩ n22_9 st = normS b ⟨[2], []⟩ .ret st := GE.ret_step (by kernel_rfl) (by kernel_rfl)
theorem n22_7s : codeB Try.prog E cx n22_7 st = thenS (codeB Try.prog E cx n22_8 st) (codeB Try.prog E cx n22_9) := GE.seq_step (by kernel_rfl)
theorem n22_11s : codeB Try.prog E ⟨f, 14, b, ro⟩ n22_11 st = plainS (runOps Try.prog E b q22_11 (ops [true, false, false, true, true, false] Try.f22) st) := GE.region_step (id := 3) (GE.reg_of (by kernel_rfl)) (by kernel_rfl)
theorem n22_14s : codeB Try.prog E ⟨f, 14, b, ro⟩ n22_14 st = plainS (runOps Try.prog E b q22_14 (ops [true, false, false, true, true, true, false, false] Try.f22) st) := GE.region_step (id := 4) (GE.reg_of (by kernel_rfl)) (by kernel_rfl)
theorem n22_15s : codeB Try.prog LL ⟨22, 14, b, ro⟩ n22_15 st = normS b ⟨[2], []⟩ .ret st := GE.ret_step (by kernel_rfl) (by kernel_rfl)
theorem n22_13s : codeB Try.prog E cx n22_13 st = thenS (codeB Try.prog E cx n22_14 st) (codeB Try.prog E cx n22_15) := GE.seq_step (by kernel_rfl)
theorem n22_17s : codeB Try.prog E ⟨f, 14, b, ro⟩ n22_17 st = plainS (runOps Try.prog E b q22_17 (ops [true, false, false, true, true, true, true, false] Try.f22) st) := GE.region_step (id := 5) (GE.reg_of (by kernel_rfl)) (by kernel_rfl)
theorem n22_20s : codeB Try.prog E ⟨f, 14, b, ro⟩ n22_20 st = plainS (runOps Try.prog E b q22_20 (ops [true, false, false, true, true, true, true, true, false, false] Try.f22) st) := GE.region_step (id := 6) (GE.reg_of (by kernel_rfl)) (by kernel_rfl)
theorem n22_21s : codeB Try.prog LL ⟨22, 14, b, ro⟩ n22_21 st = normS b ⟨[2], []⟩ .ret st := GE.ret_step (by kernel_rfl) (by kernel_rfl)
theorem n22_19s : codeB Try.prog E cx n22_19 st = thenS (codeB Try.prog E cx n22_20 st) (codeB Try.prog E cx n22_21) := GE.seq_step (by kernel_rfl)
theorem n22_22s : codeB Try.prog E cx n22_22 st = some (.normal, st) := GE.skip_step (by kernel_rfl)
theorem n22_18s : codeB Try.prog E cx n22_18 st = condS (codeB Try.prog E cx n22_19) (codeB Try.prog E cx n22_22) (lk st.σ 10) st := GE.cond_step (c := .tmp 10) (by kernel_rfl)
theorem n22_16s : codeB Try.prog E cx n22_16 st = thenS (codeB Try.prog E cx n22_17 st) (codeB Try.prog E cx n22_18) := GE.seq_step (by kernel_rfl)
theorem n22_12s : codeB Try.prog E cx n22_12 st = condS (codeB Try.prog E cx n22_13) (codeB Try.prog E cx n22_16) (lk st.σ 6) st := GE.cond_step (c := .tmp 6) (by kernel_rfl)
theorem n22_10s : codeB Try.prog E cx n22_10 st = thenS (codeB Try.prog E cx n22_11 st) (codeB Try.prog E cx n22_12) := GE.seq_step (by kernel_rfl)
theorem n22_6s : codeB Try.prog E cx n22_6 st = condS (codeB Try.prog E cx n22_7) (codeB Try.prog E cx n22_10) (lk st.σ 3) st := GE.cond_step (c := .tmp 3) (by kernel_rfl)
theorem n22_4s : codeB Try.prog E cx n22_4 st = thenS (codeB Try.prog E cx n22_5 st) (codeB Try.prog E cx n22_6) := GE.seq_step (by kernel_rfl)
theorem n22_3s : codeB Try.prog E cx n22_3 st = blockS 0 (codeB Try.prog E cx n22_4 st) st := GE.block_step (by kernel_rfl)
theorem n22_24s : codeB Try.prog E ⟨f, 14, b, ro⟩ n22_24 st = plainS (runOps Try.prog E b q22_24 (ops [true, true, false] Try.f22) st) := GE.region_step (id := 7) (GE.reg_of (by kernel_rfl)) (by kernel_rfl)
theorem n22_25s : codeB Try.prog LL ⟨22, 14, b, ro⟩ n22_25 st = normS b ⟨[2], []⟩ .ret st := GE.ret_step (by kernel_rfl) (by kernel_rfl)
theorem n22_23s : codeB Try.prog E cx n22_23 st = thenS (codeB Try.prog E cx n22_24 st) (codeB Try.prog E cx n22_25) := GE.seq_step (by kernel_rfl)
theorem n22_2s : codeB Try.prog E cx n22_2 st = thenS (codeB Try.prog E cx n22_3 st) (codeB Try.prog E cx n22_23) := GE.seq_step (by kernel_rfl)
theorem n22_0s : codeB Try.prog E cx n22_0 st = thenS (codeB Try.prog E cx n22_1 st) (codeB Try.prog E cx n22_2) := GE.seq_step (by kernel_rfl)
noncomputable def n24_0 : Code := bodyOf Try.f24
noncomputable def n24_1 : Code := cl n24_0
noncomputable def q24_1 : List Oper := opsOf n24_1
noncomputable def n24_2 : Code := cr n24_0
noncomputable def n24_3 : Code := cl n24_2
noncomputable def n24_4 : Code := cl n24_3
noncomputable def q24_4 : List Oper := opsOf n24_4
noncomputable def n24_5 : Code := cr n24_3
noncomputable def n24_6 : Code := cl n24_5
noncomputable def n24_7 : Code := cl n24_6
noncomputable def n24_8 : Code := cl n24_7
noncomputable def q24_8 : List Oper := opsOf n24_8
noncomputable def n24_9 : Code := cr n24_7
noncomputable def n24_10 : Code := cl n24_9
noncomputable def n24_11 : Code := cl n24_10
noncomputable def q24_11 : List Oper := opsOf n24_11
noncomputable def n24_12 : Code := cr n24_10
noncomputable def n24_13 : Code := cr n24_9
noncomputable def n24_14 : Code := cl n24_13
noncomputable def q24_14 : List Oper := opsOf n24_14
noncomputable def n24_15 : Code := cr n24_13
noncomputable def n24_16 : Code := cl n24_15
noncomputable def n24_17 : Code := cl n24_16
noncomputable def q24_17 : List Oper := opsOf n24_17
noncomputable def n24_18 : Code := cr n24_16
noncomputable def n24_19 : Code := cr n24_15
noncomputable def n24_20 : Code := cl n24_19
noncomputable def q24_20 : List Oper := opsOf n24_20
noncomputable def n24_21 : Code := cr n24_19
noncomputable def n24_22 : Code := cl n24_21
noncomputable def n24_23 : Code := cl n24_22
noncomputable def q24_23 : List Oper := opsOf n24_23
noncomputable def n24_24 : Code := cr n24_22
noncomputable def n24_25 : Code := cr n24_21
noncomputable def n24_26 : Code := cl n24_25
noncomputable def q24_26 : List Oper := opsOf n24_26
noncomputable def n24_27 : Code := cr n24_25
noncomputable def n24_28 : Code := cl n24_27
noncomputable def n24_29 : Code := cl n24_28
noncomputable def q24_29 : List Oper := opsOf n24_29
noncomputable def n24_30 : Code := cr n24_28
noncomputable def n24_31 : Code := cr n24_27
noncomputable def n24_32 : Code := cr n24_5
noncomputable def n24_33 : Code := cl n24_32
noncomputable def q24_33 : List Oper := opsOf n24_33
noncomputable def n24_34 : Code := cr n24_32
noncomputable def n24_35 : Code := cl n24_34
noncomputable def n24_36 : Code := cr n24_34
noncomputable def n24_37 : Code := cl n24_36
noncomputable def n24_38 : Code := cl n24_37
noncomputable def q24_38 : List Oper := opsOf n24_38
noncomputable def n24_39 : Code := cr n24_37
noncomputable def n24_40 : Code := cl n24_39
noncomputable def n24_41 : Code := cl n24_40
noncomputable def n24_42 : Code := cl n24_41
noncomputable def q24_42 : List Oper := opsOf n24_42
noncomputable def n24_43 : Code := cr n24_41
noncomputable def q24_43 : List Oper := opsOf n24_43
noncomputable def n24_44 : Code := cr n24_40
noncomputable def n24_45 : Code := cl n24_44
noncomputable def n24_46 : Code := cl n24_45
noncomputable def n24_47 : Code := cl n24_46
noncomputable def q24_47 : List Oper := opsOf n24_47
noncomputable def n24_48 : Code := cr n24_46
noncomputable def n24_49 : Code := cl n24_48
noncomputable def n24_50 : Code := cl n24_49
noncomputable def n24_51 : Code := cl n24_50
noncomputable def q24_51 : List Oper := opsOf n24_51
noncomputable def n24_52 : Code := cr n24_50
noncomputable def n24_53 : Code := cl n24_52
noncomputable def n24_54 : Code := cl n24_53
noncomputable def n24_55 : Code := cr n24_53
noncomputable def n24_56 : Code := cr n24_52
noncomputable def n24_57 : Code := cl n24_56
noncomputable def n24_58 : Code := cl n24_57
noncomputable def q24_58 : List Oper := opsOf n24_58
noncomputable def n24_59 : Code := cr n24_57
noncomputable def n24_60 : Code := cl n24_59
noncomputable def q24_60 : List Oper := opsOf n24_60
noncomputable def n24_61 : Code := cr n24_59
noncomputable def n24_62 : Code := cl n24_61
noncomputable def n24_63 : Code := cr n24_61
noncomputable def n24_64 : Code := cr n24_45
noncomputable def q24_64 : List Oper := opsOf n24_64
noncomputable def n24_65 : Code := cr n24_36
noncomputable def n24_66 : Code := cl n24_65
noncomputable def q24_66 : List Oper := opsOf n24_66
noncomputable def n24_67 : Code := cr n24_65
noncomputable def r24_0 : Code := .seq .skip n24_36
theorem body24 : Try.f24.body = some n24_0 := by kernel_rfl
theorem run24 (E : Ev) (args : List Value) (h : List Blk) (hl : args.length ≤ 57) : runB Try.prog E 24 args h = endS Try.prog [.tmp 4, .tmp 5] h.length (codeB Try.prog E ⟨24, 57, h.length, none⟩ n24_0 ⟨enumT 0 args, h, []⟩) := GE.run_step Try.func24 body24 (by kernel_rfl) (by decide) (by kernel_rfl) hl
theorem n24_1s : codeB Try.prog E ⟨f, 57, b, ro⟩ n24_1 st = plainS (runOps Try.prog E b q24_1 (ops [false] Try.f24) st) := GE.region_step (id := 0) (GE.reg_of (by kernel_rfl)) (by kernel_rfl)
theorem n24_4s : codeB Try.prog E ⟨f, 57, b, ro⟩ n24_4 st = plainS (runOps Try.prog E b q24_4 (ops [true, false, false] Try.f24) st) := GE.region_step (id := 1) (GE.reg_of (by kernel_rfl)) (by kernel_rfl)
theorem n24_8s : codeB Try.prog E ⟨f, 57, b, ro⟩ n24_8 st = plainS (runOps Try.prog E b q24_8 (ops [true, false, true, false, false, false] Try.f24) st) := GE.region_step (id := 2) (GE.reg_of (by kernel_rfl)) (by kernel_rfl)
theorem n24_11s : codeB Try.prog E ⟨f, 57, b, ro⟩ n24_11 st = plainS (runOps Try.prog E b q24_11 (ops [true, false, true, false, false, true, false, false] Try.f24) st) := GE.region_step (id := 3) (GE.reg_of (by kernel_rfl)) (by kernel_rfl)
theorem n24_12s : codeB Try.prog LL ⟨24, 57, b, ro⟩ n24_12 st = normS b ⟨[4, 5], [⟨4, 0, 1, true⟩]⟩ .ret st := GE.ret_step (by kernel_rfl) (by kernel_rfl)
theorem n24_10s : codeB Try.prog E cx n24_10 st = thenS (codeB Try.prog E cx n24_11 st) (codeB Try.prog E cx n24_12) := GE.seq_step (by kernel_rfl)
theorem n24_14s : codeB Try.prog E ⟨f, 57, b, ro⟩ n24_14 st = plainS (runOps Try.prog E b q24_14 (ops [true, false, true, false, false, true, true, false] Try.f24) st) := GE.region_step (id := 4) (GE.reg_of (by kernel_rfl)) (by kernel_rfl)
theorem n24_17s : codeB Try.prog E ⟨f, 57, b, ro⟩ n24_17 st = plainS (runOps Try.prog E b q24_17 (ops [true, false, true, false, false, true, true, true, false, false] Try.f24) st) := GE.region_step (id := 5) (GE.reg_of (by kernel_rfl)) (by kernel_rfl)
theorem n24_18s : codeB Try.prog LL ⟨24, 57, b, ro⟩ n24_18 st = normS b ⟨[4, 5], [⟨4, 0, 1, true⟩]⟩ .ret st := GE.ret_step (by kernel_rfl) (by kernel_rfl)
theorem n24_16s : codeB Try.prog E cx n24_16 st = thenS (codeB Try.prog E cx n24_17 st) (codeB Try.prog E cx n24_18) := GE.seq_step (by kernel_rfl)
theorem n24_20s : codeB Try.prog E ⟨f, 57, b, ro⟩ n24_20 st = plainS (runOps Try.prog E b q24_20 (ops [true, false, true, false, false, true, true, true, true, false] Try.f24) st) := GE.region_step (id := 6) (GE.reg_of (by kernel_rfl)) (by kernel_rfl)
theorem n24_23s : codeB Try.prog E ⟨f, 57, b, ro⟩ n24_23 st = plainS (runOps Try.prog E b q24_23 (ops [true, false, true, false, false, true, true, true, true, true, false, false] Try.f24) st) := GE.region_step (id := 7) (GE.reg_of (by kernel_rfl)) (by kernel_rfl)
theorem n24_24s : codeB Try.prog LL ⟨24, 57, b, ro⟩ n24_24 st = normS b ⟨[4, 5], [⟨4, 0, 1, true⟩]⟩ .ret st := GE.ret_step (by kernel_rfl) (by kernel_rfl)
theorem n24_22s : codeB Try.prog E cx n24_22 st = thenS (codeB Try.prog E cx n24_23 st) (codeB Try.prog E cx n24_24) := GE.seq_step (by kernel_rfl)
theorem n24_26s : codeB Try.prog E ⟨f, 57, b, ro⟩ n24_26 st = plainS (runOps Try.prog E b q24_26 (ops [true, false, true, false, false, true, true, true, true, true, true, false] Try.f24) st) := GE.region_step (id := 8) (GE.reg_of (by kernel_rfl)) (by kernel_rfl)
theorem n24_29s : codeB Try.prog E ⟨f, 57, b, ro⟩ n24_29 st = plainS (runOps Try.prog E b q24_29 (ops [true, false, true, false, false, true, true, true, true, true, true, true, false, false] Try.f24) st) := GE.region_step (id := 9) (GE.reg_of (by kernel_rfl)) (by kernel_rfl)
theorem n24_30s : codeB Try.prog LL ⟨24, 57, b, ro⟩ n24_30 st = normS b ⟨[4, 5], [⟨4, 0, 1, true⟩]⟩ .ret st := GE.ret_step (by kernel_rfl) (by kernel_rfl)
theorem n24_28s : codeB Try.prog E cx n24_28 st = thenS (codeB Try.prog E cx n24_29 st) (codeB Try.prog E cx n24_30) := GE.seq_step (by kernel_rfl)
theorem n24_31s : codeB Try.prog E cx n24_31 st = some (.normal, st) := GE.skip_step (by kernel_rfl)
theorem n24_27s : codeB Try.prog E cx n24_27 st = condS (codeB Try.prog E cx n24_28) (codeB Try.prog E cx n24_31) (lk st.σ 24) st := GE.cond_step (c := .tmp 24) (by kernel_rfl)
theorem n24_25s : codeB Try.prog E cx n24_25 st = thenS (codeB Try.prog E cx n24_26 st) (codeB Try.prog E cx n24_27) := GE.seq_step (by kernel_rfl)
theorem n24_21s : codeB Try.prog E cx n24_21 st = condS (codeB Try.prog E cx n24_22) (codeB Try.prog E cx n24_25) (lk st.σ 20) st := GE.cond_step (c := .tmp 20) (by kernel_rfl)
theorem n24_19s : codeB Try.prog E cx n24_19 st = thenS (codeB Try.prog E cx n24_20 st) (codeB Try.prog E cx n24_21) := GE.seq_step (by kernel_rfl)
theorem n24_15s : codeB Try.prog E cx n24_15 st = condS (codeB Try.prog E cx n24_16) (codeB Try.prog E cx n24_19) (lk st.σ 17) st := GE.cond_step (c := .tmp 17) (by kernel_rfl)
theorem n24_13s : codeB Try.prog E cx n24_13 st = thenS (codeB Try.prog E cx n24_14 st) (codeB Try.prog E cx n24_15) := GE.seq_step (by kernel_rfl)
theorem n24_9s : codeB Try.prog E cx n24_9 st = condS (codeB Try.prog E cx n24_10) (codeB Try.prog E cx n24_13) (lk st.σ 13) st := GE.cond_step (c := .tmp 13) (by kernel_rfl)
theorem n24_7s : codeB Try.prog E cx n24_7 st = thenS (codeB Try.prog E cx n24_8 st) (codeB Try.prog E cx n24_9) := GE.seq_step (by kernel_rfl)
theorem n24_6s : codeB Try.prog E cx n24_6 st = blockS 0 (codeB Try.prog E cx n24_7 st) st := GE.block_step (by kernel_rfl)
theorem n24_33s : codeB Try.prog E ⟨f, 57, b, ro⟩ n24_33 st = plainS (runOps Try.prog E b q24_33 (ops [true, false, true, true, false] Try.f24) st) := GE.region_step (id := 10) (GE.reg_of (by kernel_rfl)) (by kernel_rfl)
theorem n24_35s : codeB Try.prog LL ⟨24, 57, b, ro⟩ n24_35 st = normS b ⟨[0, 3, 4, 5, 7, 8, 9, 32, 33], [⟨4, 0, 1, true⟩, ⟨7, 0, 1, true⟩]⟩ .normal st := GE.label_step (n := 0) (by kernel_rfl) (by kernel_rfl)
theorem n24_38s : codeB Try.prog E ⟨f, 57, b, ro⟩ n24_38 st = plainS (runOps Try.prog E b q24_38 (ops [true, false, true, true, true, true, false, false] Try.f24) st) := GE.region_step (id := 11) (GE.reg_of (by kernel_rfl)) (by kernel_rfl)
theorem n24_42s : codeB Try.prog E ⟨f, 57, b, ro⟩ n24_42 st = plainS (runOps Try.prog E b q24_42 (ops [true, false, true, true, true, true, false, true, false, false, false] Try.f24) st) := GE.region_step (id := 12) (GE.reg_of (by kernel_rfl)) (by kernel_rfl)
theorem n24_43s : codeB Try.prog E ⟨f, 57, b, ro⟩ n24_43 st = plainS (runOps Try.prog E b q24_43 (ops [true, false, true, true, true, true, false, true, false, false, true] Try.f24) st) := GE.region_step (id := 13) (GE.reg_of (by kernel_rfl)) (by kernel_rfl)
theorem n24_41s : codeB Try.prog E cx n24_41 st = thenS (codeB Try.prog E cx n24_42 st) (codeB Try.prog E cx n24_43) := GE.seq_step (by kernel_rfl)
theorem n24_47s : codeB Try.prog E ⟨f, 57, b, ro⟩ n24_47 st = plainS (runOps Try.prog E b q24_47 (ops [true, false, true, true, true, true, false, true, false, true, false, false, false] Try.f24) st) := GE.region_step (id := 14) (GE.reg_of (by kernel_rfl)) (by kernel_rfl)
theorem n24_51s : codeB Try.prog E ⟨f, 57, b, ro⟩ n24_51 st = plainS (runOps Try.prog E b q24_51 (ops [true, false, true, true, true, true, false, true, false, true, false, false, true, false, false, false] Try.f24) st) := GE.region_step (id := 15) (GE.reg_of (by kernel_rfl)) (by kernel_rfl)
theorem n24_54s : codeB Try.prog E cx n24_54 st = some (.normal, st) := GE.skip_step (by kernel_rfl)
theorem n24_55s : codeB Try.prog LL ⟨24, 57, b, ro⟩ n24_55 st = normS b ⟨[7, 8], [⟨7, 0, 1, true⟩]⟩ (.exit 3) st := GE.exit_step (by kernel_rfl) (by kernel_rfl)
theorem n24_53s : codeB Try.prog E cx n24_53 st = condS (codeB Try.prog E cx n24_54) (codeB Try.prog E cx n24_55) (lk st.σ 37) st := GE.cond_step (c := .tmp 37) (by kernel_rfl)
theorem n24_58s : codeB Try.prog E ⟨f, 57, b, ro⟩ n24_58 st = plainS (runOps Try.prog E b q24_58 (ops [true, false, true, true, true, true, false, true, false, true, false, false, true, false, false, true, true, false, false] Try.f24) st) := GE.region_step (id := 16) (GE.reg_of (by kernel_rfl)) (by kernel_rfl)
theorem q24_60g4 : gd q24_60 4 = some 43 := by kernel_rfl
theorem n24_60s : codeB Try.prog E ⟨f, 57, b, ro⟩ n24_60 st = drawS [0, 0, 3, 7, 15, 31, 31, 127, 31, 31, 799, 2047, 4095] (runOpsF Try.prog E b q24_60 (ops [true, false, true, true, true, true, false, true, false, true, false, false, true, false, false, true, true, false, true, false] Try.f24) st) := GE.draw_step (id := 17) (GE.reg_of (by kernel_rfl)) (by kernel_rfl) (by kernel_rfl) (by kernel_rfl)
theorem n24_62s : codeB Try.prog LL ⟨24, 57, b, ro⟩ n24_62 st = normS b ⟨[], []⟩ (.exit 2) st := GE.exit_step (by kernel_rfl) (by kernel_rfl)
theorem n24_63s : codeB Try.prog E cx n24_63 st = some (.normal, st) := GE.skip_step (by kernel_rfl)
theorem n24_61s : codeB Try.prog E cx n24_61 st = condS (codeB Try.prog E cx n24_62) (codeB Try.prog E cx n24_63) (lk st.σ 51) st := GE.cond_step (c := .tmp 51) (by kernel_rfl)
theorem n24_59s : codeB Try.prog E cx n24_59 st = thenS (codeB Try.prog E cx n24_60 st) (codeB Try.prog E cx n24_61) := GE.seq_step (by kernel_rfl)
theorem n24_57s : codeB Try.prog E cx n24_57 st = thenS (codeB Try.prog E cx n24_58 st) (codeB Try.prog E cx n24_59) := GE.seq_step (by kernel_rfl)
theorem n24_56s : codeB Try.prog E cx n24_56 st = blockS 4 (codeB Try.prog E cx n24_57 st) st := GE.block_step (by kernel_rfl)
theorem n24_52s : codeB Try.prog E cx n24_52 st = thenS (codeB Try.prog E cx n24_53 st) (codeB Try.prog E cx n24_56) := GE.seq_step (by kernel_rfl)
theorem n24_50s : codeB Try.prog E cx n24_50 st = thenS (codeB Try.prog E cx n24_51 st) (codeB Try.prog E cx n24_52) := GE.seq_step (by kernel_rfl)
theorem n24_49k : LL.kp (⟨24, 57, b, ro⟩ : Cx).fn (4 * rid n24_50 + 3) = some ⟨[3, 7, 8, 9, 35], [⟨7, 0, 1, true⟩]⟩ := by kernel_rfl
theorem n24_49s : codeB Try.prog LL ⟨24, 57, b, ro⟩ n24_49 st = headS b ⟨[3, 7, 8, 9, 35], [⟨7, 0, 1, true⟩]⟩ st (lpB Try.prog LL ⟨24, 57, b, ro⟩ n24_49 n24_50) := GE.lpB_step (by kernel_rfl) (n24_49k b ro)
theorem n24_49g : LL.code ⟨24, 57, b, ro⟩ n24_49 st = headS b ⟨[3, 7, 8, 9, 35], [⟨7, 0, 1, true⟩]⟩ st (lpB Try.prog LL ⟨24, 57, b, ro⟩ n24_49 n24_50) := GE.lpB_again (by kernel_rfl) (n24_49k b ro)
theorem n24_48s : codeB Try.prog E cx n24_48 st = blockS 3 (codeB Try.prog E cx n24_49 st) st := GE.block_step (by kernel_rfl)
theorem n24_46s : codeB Try.prog E cx n24_46 st = thenS (codeB Try.prog E cx n24_47 st) (codeB Try.prog E cx n24_48) := GE.seq_step (by kernel_rfl)
theorem n24_64s : codeB Try.prog E ⟨f, 57, b, ro⟩ n24_64 st = plainS (runOps Try.prog E b q24_64 (ops [true, false, true, true, true, true, false, true, false, true, false, true] Try.f24) st) := GE.region_step (id := 18) (GE.reg_of (by kernel_rfl)) (by kernel_rfl)
theorem n24_45s : codeB Try.prog E cx n24_45 st = thenS (codeB Try.prog E cx n24_46 st) (codeB Try.prog E cx n24_64) := GE.seq_step (by kernel_rfl)
theorem n24_44s : codeB Try.prog E cx n24_44 st = blockS 2 (codeB Try.prog E cx n24_45 st) st := GE.block_step (by kernel_rfl)
theorem n24_40e : n24_40 = .rangeFunc (.tmp 31) #[32, 33] n24_41 n24_44 := by kernel_rfl
theorem n24_40k : (ue n24_41).1 ++ (ue n24_44).1 = [32, 33, 9, 3, 7, 8] := by kernel_rfl
theorem n24_39s : codeB Try.prog E cx n24_39 st = blockS 1 (codeB Try.prog E cx n24_40 st) st := GE.block_step (by kernel_rfl)
theorem n24_37s : codeB Try.prog E cx n24_37 st = thenS (codeB Try.prog E cx n24_38 st) (codeB Try.prog E cx n24_39) := GE.seq_step (by kernel_rfl)
theorem n24_66s : codeB Try.prog E ⟨f, 57, b, ro⟩ n24_66 st = plainS (runOps Try.prog E b q24_66 (ops [true, false, true, true, true, true, true, false] Try.f24) st) := GE.region_step (id := 19) (GE.reg_of (by kernel_rfl)) (by kernel_rfl)
theorem n24_67s : codeB Try.prog LL ⟨24, 57, b, ro⟩ n24_67 st = normS b ⟨[4, 5], [⟨4, 0, 1, true⟩]⟩ .ret st := GE.ret_step (by kernel_rfl) (by kernel_rfl)
theorem n24_65s : codeB Try.prog E cx n24_65 st = thenS (codeB Try.prog E cx n24_66 st) (codeB Try.prog E cx n24_67) := GE.seq_step (by kernel_rfl)
theorem n24_36s : codeB Try.prog E cx n24_36 st = thenS (codeB Try.prog E cx n24_37 st) (codeB Try.prog E cx n24_65) := GE.seq_step (by kernel_rfl)
theorem n24_34s : codeB Try.prog E cx n24_34 st = thenS (codeB Try.prog E cx n24_35 st) (codeB Try.prog E cx n24_36) := GE.seq_step (by kernel_rfl)
theorem n24_32s : codeB Try.prog E cx n24_32 st = thenS (codeB Try.prog E cx n24_33 st) (codeB Try.prog E cx n24_34) := GE.seq_step (by kernel_rfl)
theorem n24_5s : codeB Try.prog E cx n24_5 st = thenS (codeB Try.prog E cx n24_6 st) (codeB Try.prog E cx n24_32) := GE.seq_step (by kernel_rfl)
theorem n24_3s : codeB Try.prog E cx n24_3 st = thenS (codeB Try.prog E cx n24_4 st) (codeB Try.prog E cx n24_5) := GE.seq_step (by kernel_rfl)
theorem n24_2s : codeB Try.prog E cx n24_2 st = gotoS Try.prog E cx n24_3 (codeB Try.prog E cx n24_3 st) := GE.scopeK_step (by kernel_rfl)
theorem n24_2j0 : gotoL Try.prog LL ⟨24, 57, b, ro⟩ n24_3 0 st = headS b ⟨[0, 3, 4, 5, 7, 8, 9, 32, 33], [⟨4, 0, 1, true⟩, ⟨7, 0, 1, true⟩]⟩ st (scpL Try.prog LL ⟨24, 57, b, ro⟩ n24_3 r24_0) := GE.gotoL_step (by kernel_rfl) (by kernel_rfl)
theorem n24_2i0 : codeB Try.prog LL ⟨f, nt, b, ro⟩ r24_0 st = codeB Try.prog LL ⟨f, nt, b, ro⟩ n24_36 st := rfl
theorem n24_0s : codeB Try.prog E cx n24_0 st = thenS (codeB Try.prog E cx n24_1 st) (codeB Try.prog E cx n24_2) := GE.seq_step (by kernel_rfl)
noncomputable def n33_0 : Code := bodyOf Try.f33
noncomputable def n33_1 : Code := cl n33_0
noncomputable def q33_1 : List Oper := opsOf n33_1
noncomputable def n33_2 : Code := cr n33_0
noncomputable def n33_3 : Code := cl n33_2
noncomputable def q33_3 : List Oper := opsOf n33_3
noncomputable def n33_4 : Code := cr n33_2
noncomputable def n33_5 : Code := cl n33_4
noncomputable def q33_5 : List Oper := opsOf n33_5
noncomputable def n33_6 : Code := cr n33_4
noncomputable def n33_7 : Code := cl n33_6
noncomputable def n33_8 : Code := cl n33_7
noncomputable def q33_8 : List Oper := opsOf n33_8
noncomputable def n33_9 : Code := cr n33_7
noncomputable def n33_10 : Code := cl n33_9
noncomputable def n33_11 : Code := cl n33_10
noncomputable def n33_12 : Code := cl n33_11
noncomputable def q33_12 : List Oper := opsOf n33_12
noncomputable def n33_13 : Code := cr n33_11
noncomputable def n33_14 : Code := cl n33_13
noncomputable def n33_15 : Code := cl n33_14
noncomputable def n33_16 : Code := cr n33_14
noncomputable def n33_17 : Code := cr n33_13
noncomputable def n33_18 : Code := cl n33_17
noncomputable def n33_19 : Code := cl n33_18
noncomputable def n33_20 : Code := cl n33_19
noncomputable def q33_20 : List Oper := opsOf n33_20
noncomputable def n33_21 : Code := cr n33_19
noncomputable def q33_21 : List Oper := opsOf n33_21
noncomputable def n33_22 : Code := cr n33_17
noncomputable def q33_22 : List Oper := opsOf n33_22
noncomputable def n33_23 : Code := cr n33_6
noncomputable def n33_24 : Code := cl n33_23
noncomputable def q33_24 : List Oper := opsOf n33_24
noncomputable def n33_25 : Code := cr n33_23
theorem body33 : Try.f33.body = some n33_0 := by kernel_rfl
theorem run33 (E : Ev) (args : List Value) (h : List Blk) (hl : args.length ≤ 41) : runB Try.prog E 33 args h = endS Try.prog [.tmp 6] h.length (codeB Try.prog E ⟨33, 41, h.length, none⟩ n33_0 ⟨enumT 0 args, h, []⟩) := GE.run_step Try.func33 body33 (by kernel_rfl) (by decide) (by kernel_rfl) hl
theorem n33_1s : codeB Try.prog E ⟨f, 41, b, ro⟩ n33_1 st = plainS (runOps Try.prog E b q33_1 (ops [false] Try.f33) st) := GE.region_step (id := 0) (GE.reg_of (by kernel_rfl)) (by kernel_rfl)
theorem n33_3s : codeB Try.prog E ⟨f, 41, b, ro⟩ n33_3 st = plainS (runOps Try.prog E b q33_3 (ops [true, false] Try.f33) st) := GE.region_step (id := 1) (GE.reg_of (by kernel_rfl)) (by kernel_rfl)
theorem n33_5s : codeB Try.prog E ⟨f, 41, b, ro⟩ n33_5 st = plainS (runOps Try.prog E b q33_5 (ops [true, true, false] Try.f33) st) := GE.region_step (id := 2) (GE.reg_of (by kernel_rfl)) (by kernel_rfl)
theorem n33_8s : codeB Try.prog E ⟨f, 41, b, ro⟩ n33_8 st = plainS (runOps Try.prog E b q33_8 (ops [true, true, true, false, false] Try.f33) st) := GE.region_step (id := 3) (GE.reg_of (by kernel_rfl)) (by kernel_rfl)
theorem n33_12s : codeB Try.prog E ⟨f, 41, b, ro⟩ n33_12 st = plainS (runOps Try.prog E b q33_12 (ops [true, true, true, false, true, false, false, false] Try.f33) st) := GE.region_step (id := 4) (GE.reg_of (by kernel_rfl)) (by kernel_rfl)
theorem n33_15s : codeB Try.prog E cx n33_15 st = some (.normal, st) := GE.skip_step (by kernel_rfl)
theorem n33_16s : codeB Try.prog LL ⟨33, 41, b, ro⟩ n33_16 st = normS b ⟨[8], [⟨8, 0, 1, true⟩]⟩ (.exit 0) st := GE.exit_step (by kernel_rfl) (by kernel_rfl)
theorem n33_14s : codeB Try.prog E cx n33_14 st = condS (codeB Try.prog E cx n33_15) (codeB Try.prog E cx n33_16) (lk st.σ 25) st := GE.cond_step (c := .tmp 25) (by kernel_rfl)
theorem n33_20s : codeB Try.prog E ⟨f, 41, b, ro⟩ n33_20 st = plainS (runOps Try.prog E b q33_20 (ops [true, true, true, false, true, false, false, true, true, false, false, false] Try.f33) st) := GE.region_step (id := 5) (GE.reg_of (by kernel_rfl)) (by kernel_rfl)
theorem n33_21s : codeB Try.prog E ⟨f, 41, b, ro⟩ n33_21 st = plainS (runOps Try.prog E b q33_21 (ops [true, true, true, false, true, false, false, true, true, false, false, true] Try.f33) st) := GE.region_step (id := 6) (GE.reg_of (by kernel_rfl)) (by kernel_rfl)
theorem n33_19s : codeB Try.prog E cx n33_19 st = thenS (codeB Try.prog E cx n33_20 st) (codeB Try.prog E cx n33_21) := GE.seq_step (by kernel_rfl)
theorem n33_18s : codeB Try.prog E cx n33_18 st = blockS 1 (codeB Try.prog E cx n33_19 st) st := GE.block_step (by kernel_rfl)
theorem n33_22s : codeB Try.prog E ⟨f, 41, b, ro⟩ n33_22 st = plainS (runOps Try.prog E b q33_22 (ops [true, true, true, false, true, false, false, true, true, true] Try.f33) st) := GE.region_step (id := 7) (GE.reg_of (by kernel_rfl)) (by kernel_rfl)
theorem n33_17s : codeB Try.prog E cx n33_17 st = thenS (codeB Try.prog E cx n33_18 st) (codeB Try.prog E cx n33_22) := GE.seq_step (by kernel_rfl)
theorem n33_13s : codeB Try.prog E cx n33_13 st = thenS (codeB Try.prog E cx n33_14 st) (codeB Try.prog E cx n33_17) := GE.seq_step (by kernel_rfl)
theorem n33_11s : codeB Try.prog E cx n33_11 st = thenS (codeB Try.prog E cx n33_12 st) (codeB Try.prog E cx n33_13) := GE.seq_step (by kernel_rfl)
theorem n33_10k : LL.kp (⟨33, 41, b, ro⟩ : Cx).fn (4 * rid n33_11 + 3) = some ⟨[3, 8, 23, 24], [⟨8, 0, 1, true⟩]⟩ := by kernel_rfl
theorem n33_10s : codeB Try.prog LL ⟨33, 41, b, ro⟩ n33_10 st = headS b ⟨[3, 8, 23, 24], [⟨8, 0, 1, true⟩]⟩ st (lpB Try.prog LL ⟨33, 41, b, ro⟩ n33_10 n33_11) := GE.lpB_step (by kernel_rfl) (n33_10k b ro)
theorem n33_10g : LL.code ⟨33, 41, b, ro⟩ n33_10 st = headS b ⟨[3, 8, 23, 24], [⟨8, 0, 1, true⟩]⟩ st (lpB Try.prog LL ⟨33, 41, b, ro⟩ n33_10 n33_11) := GE.lpB_again (by kernel_rfl) (n33_10k b ro)
theorem n33_9s : codeB Try.prog E cx n33_9 st = blockS 0 (codeB Try.prog E cx n33_10 st) st := GE.block_step (by kernel_rfl)
theorem n33_7s : codeB Try.prog E cx n33_7 st = thenS (codeB Try.prog E cx n33_8 st) (codeB Try.prog E cx n33_9) := GE.seq_step (by kernel_rfl)
theorem n33_24s : codeB Try.prog E ⟨f, 41, b, ro⟩ n33_24 st = plainS (runOps Try.prog E b q33_24 (ops [true, true, true, true, false] Try.f33) st) := GE.region_step (id := 8) (GE.reg_of (by kernel_rfl)) (by kernel_rfl)
theorem n33_25s : codeB Try.prog LL ⟨33, 41, b, ro⟩ n33_25 st = normS b ⟨[6], []⟩ .ret st := GE.ret_step (by kernel_rfl) (by kernel_rfl)
theorem n33_23s : codeB Try.prog E cx n33_23 st = thenS (codeB Try.prog E cx n33_24 st) (codeB Try.prog E cx n33_25) := GE.seq_step (by kernel_rfl)
theorem n33_6s : codeB Try.prog E cx n33_6 st = thenS (codeB Try.prog E cx n33_7 st) (codeB Try.prog E cx n33_23) := GE.seq_step (by kernel_rfl)
theorem n33_4s : codeB Try.prog E cx n33_4 st = thenS (codeB Try.prog E cx n33_5 st) (codeB Try.prog E cx n33_6) := GE.seq_step (by kernel_rfl)
theorem n33_2s : codeB Try.prog E cx n33_2 st = thenS (codeB Try.prog E cx n33_3 st) (codeB Try.prog E cx n33_4) := GE.seq_step (by kernel_rfl)
theorem n33_0s : codeB Try.prog E cx n33_0 st = thenS (codeB Try.prog E cx n33_1 st) (codeB Try.prog E cx n33_2) := GE.seq_step (by kernel_rfl)
noncomputable def n37_0 : Code := bodyOf Try.f37
noncomputable def n37_1 : Code := cl n37_0
noncomputable def q37_1 : List Oper := opsOf n37_1
noncomputable def n37_2 : Code := cr n37_0
noncomputable def n37_3 : Code := cl n37_2
noncomputable def q37_3 : List Oper := opsOf n37_3
noncomputable def n37_4 : Code := cr n37_2
noncomputable def n37_5 : Code := cl n37_4
noncomputable def n37_6 : Code := cl n37_5
noncomputable def n37_7 : Code := cl n37_6
noncomputable def n37_8 : Code := cl n37_7
noncomputable def n37_9 : Code := cl n37_8
noncomputable def q37_9 : List Oper := opsOf n37_9
noncomputable def n37_10 : Code := cr n37_8
noncomputable def n37_11 : Code := cl n37_10
noncomputable def n37_12 : Code := cr n37_10
noncomputable def n37_13 : Code := cr n37_7
noncomputable def n37_14 : Code := cl n37_13
noncomputable def q37_14 : List Oper := opsOf n37_14
noncomputable def n37_15 : Code := cr n37_4
noncomputable def n37_16 : Code := cl n37_15
noncomputable def q37_16 : List Oper := opsOf n37_16
noncomputable def n37_17 : Code := cr n37_15
noncomputable def n37_18 : Code := cl n37_17
noncomputable def n37_19 : Code := cl n37_18
noncomputable def q37_19 : List Oper := opsOf n37_19
noncomputable def n37_20 : Code := cr n37_18
noncomputable def n37_21 : Code := cl n37_20
noncomputable def n37_22 : Code := cl n37_21
noncomputable def n37_23 : Code := cl n37_22
noncomputable def q37_23 : List Oper := opsOf n37_23
noncomputable def n37_24 : Code := cr n37_22
noncomputable def n37_25 : Code := cl n37_24
noncomputable def n37_26 : Code := cl n37_25
noncomputable def n37_27 : Code := cr n37_25
noncomputable def n37_28 : Code := cr n37_24
noncomputable def n37_29 : Code := cl n37_28
noncomputable def n37_30 : Code := cl n37_29
noncomputable def q37_30 : List Oper := opsOf n37_30
noncomputable def n37_31 : Code := cr n37_29
noncomputable def q37_31 : List Oper := opsOf n37_31
noncomputable def n37_32 : Code := cr n37_17
noncomputable def n37_33 : Code := cl n37_32
noncomputable def q37_33 : List Oper := opsOf n37_33
noncomputable def n37_34 : Code := cr n37_32
theorem body37 : Try.f37.body = some n37_0 := by kernel_rfl
theorem run37 (E : Ev) (args : List Value) (h : List Blk) (hl : args.length ≤ 34) : runB Try.prog E 37 args h = endS Try.prog [.tmp 4] h.length (codeB Try.prog E ⟨37, 34, h.length, none⟩ n37_0 ⟨enumT 0 args, h, []⟩) := GE.run_step Try.func37 body37 (by kernel_rfl) (by decide) (by kernel_rfl) hl
theorem n37_1s : codeB Try.prog E ⟨f, 34, b, ro⟩ n37_1 st = plainS (runOps Try.prog E b q37_1 (ops [false] Try.f37) st) := GE.region_step (id := 0) (GE.reg_of (by kernel_rfl)) (by kernel_rfl)
theorem n37_3s : codeB Try.prog E ⟨f, 34, b, ro⟩ n37_3 st = plainS (runOps Try.prog E b q37_3 (ops [true, false] Try.f37) st) := GE.region_step (id := 1) (GE.reg_of (by kernel_rfl)) (by kernel_rfl)
theorem n37_9s : codeB Try.prog E ⟨f, 34, b, ro⟩ n37_9 st = plainS (runOps Try.prog E b q37_9 (ops [true, true, false, false, false, false, false] Try.f37) st) := GE.region_step (id := 2) (GE.reg_of (by kernel_rfl)) (by kernel_rfl)
theorem n37_11s : codeB Try.prog E cx n37_11 st = some (.normal, st) := GE.skip_step (by kernel_rfl)
theorem n37_12s : codeB Try.prog LL ⟨37, 34, b, ro⟩ n37_12 st = normS b ⟨[0, 1, 5], []⟩ (.exit 0) st := GE.exit_step (by kernel_rfl) (by kernel_rfl)
theorem n37_10s : codeB Try.prog E cx n37_10 st = condS (codeB Try.prog E cx n37_11) (codeB Try.prog E cx n37_12) (lk st.σ 15) st := GE.cond_step (c := .tmp 15) (by kernel_rfl)
theorem n37_8s : codeB Try.prog E cx n37_8 st = thenS (codeB Try.prog E cx n37_9 st) (codeB Try.prog E cx n37_10) := GE.seq_step (by kernel_rfl)
theorem n37_14s : codeB Try.prog E ⟨f, 34, b, ro⟩ n37_14 st = plainS (runOps Try.prog E b q37_14 (ops [true, true, false, false, false, true, false] Try.f37) st) := GE.region_step (id := 3) (GE.reg_of (by kernel_rfl)) (by kernel_rfl)
theorem n37_13s : codeB Try.prog E cx n37_13 st = blockS 1 (codeB Try.prog E cx n37_14 st) st := GE.block_step (by kernel_rfl)
theorem n37_7s : codeB Try.prog E cx n37_7 st = thenS (codeB Try.prog E cx n37_8 st) (codeB Try.prog E cx n37_13) := GE.seq_step (by kernel_rfl)
theorem n37_6k : LL.kp (⟨37, 34, b, ro⟩ : Cx).fn (4 * rid n37_7 + 3) = some ⟨[0, 1, 5], []⟩ := by kernel_rfl
theorem n37_6s : codeB Try.prog LL ⟨37, 34, b, ro⟩ n37_6 st = headS b ⟨[0, 1, 5], []⟩ st (lpB Try.prog LL ⟨37, 34, b, ro⟩ n37_6 n37_7) := GE.lpB_step (by kernel_rfl) (n37_6k b ro)
theorem n37_6g : LL.code ⟨37, 34, b, ro⟩ n37_6 st = headS b ⟨[0, 1, 5], []⟩ st (lpB Try.prog LL ⟨37, 34, b, ro⟩ n37_6 n37_7) := GE.lpB_again (by kernel_rfl) (n37_6k b ro)
theorem n37_5s : codeB Try.prog E cx n37_5 st = blockS 0 (codeB Try.prog E cx n37_6 st) st := GE.block_step (by kernel_rfl)
theorem n37_16s : codeB Try.prog E ⟨f, 34, b, ro⟩ n37_16 st = plainS (runOps Try.prog E b q37_16 (ops [true, true, true, false] Try.f37) st) := GE.region_step (id := 4) (GE.reg_of (by kernel_rfl)) (by kernel_rfl)
theorem n37_19s : codeB Try.prog E ⟨f, 34, b, ro⟩ n37_19 st = plainS (runOps Try.prog E b q37_19 (ops [true, true, true, true, false, false] Try.f37) st) := GE.region_step (id := 5) (GE.reg_of (by kernel_rfl)) (by kernel_rfl)
theorem n37_23s : codeB Try.prog E ⟨f, 34, b, ro⟩ n37_23 st = plainS (runOps Try.prog E b q37_23 (ops [true, true, true, true, false, true, false, false, false] Try.f37) st) := GE.region_step (id := 6) (GE.reg_of (by kernel_rfl)) (by kernel_rfl)
theorem n37_26s : codeB Try.prog E cx n37_26 st = some (.normal, st) := GE.skip_step (by kernel_rfl)
theorem n37_27s : codeB Try.prog LL ⟨37, 34, b, ro⟩ n37_27 st = normS b ⟨[6], [⟨6, 0, 1, true⟩]⟩ (.exit 2) st := GE.exit_step (by kernel_rfl) (by kernel_rfl)
theorem n37_25s : codeB Try.prog E cx n37_25 st = condS (codeB Try.prog E cx n37_26) (codeB Try.prog E cx n37_27) (lk st.σ 22) st := GE.cond_step (c := .tmp 22) (by kernel_rfl)
theorem n37_30s : codeB Try.prog E ⟨f, 34, b, ro⟩ n37_30 st = plainS (runOps Try.prog E b q37_30 (ops [true, true, true, true, false, true, false, false, true, true, false, false] Try.f37) st) := GE.region_step (id := 7) (GE.reg_of (by kernel_rfl)) (by kernel_rfl)
theorem n37_31s : codeB Try.prog E ⟨f, 34, b, ro⟩ n37_31 st = plainS (runOps Try.prog E b q37_31 (ops [true, true, true, true, false, true, false, false, true, true, false, true] Try.f37) st) := GE.region_step (id := 8) (GE.reg_of (by kernel_rfl)) (by kernel_rfl)
theorem n37_29s : codeB Try.prog E cx n37_29 st = thenS (codeB Try.prog E cx n37_30 st) (codeB Try.prog E cx n37_31) := GE.seq_step (by kernel_rfl)
theorem n37_28s : codeB Try.prog E cx n37_28 st = blockS 3 (codeB Try.prog E cx n37_29 st) st := GE.block_step (by kernel_rfl)
theorem n37_24s : codeB Try.prog E cx n37_24 st = thenS (codeB Try.prog E cx n37_25 st) (codeB Try.prog E cx n37_28) := GE.seq_step (by kernel_rfl)
theorem n37_22s : codeB Try.prog E cx n37_22 st = thenS (codeB Try.prog E cx n37_23 st) (codeB Try.prog E cx n37_24) := GE.seq_step (by kernel_rfl)
theorem n37_21k : LL.kp (⟨37, 34, b, ro⟩ : Cx).fn (4 * rid n37_22 + 3) = some ⟨[1, 5, 6, 20], [⟨6, 0, 1, true⟩]⟩ := by kernel_rfl
theorem n37_21s : codeB Try.prog LL ⟨37, 34, b, ro⟩ n37_21 st = headS b ⟨[1, 5, 6, 20], [⟨6, 0, 1, true⟩]⟩ st (lpB Try.prog LL ⟨37, 34, b, ro⟩ n37_21 n37_22) := GE.lpB_step (by kernel_rfl) (n37_21k b ro)
theorem n37_21g : LL.code ⟨37, 34, b, ro⟩ n37_21 st = headS b ⟨[1, 5, 6, 20], [⟨6, 0, 1, true⟩]⟩ st (lpB Try.prog LL ⟨37, 34, b, ro⟩ n37_21 n37_22) := GE.lpB_again (by kernel_rfl) (n37_21k b ro)
theorem n37_20s : codeB Try.prog E cx n37_20 st = blockS 2 (codeB Try.prog E cx n37_21 st) st := GE.block_step (by kernel_rfl)
theorem n37_18s : codeB Try.prog E cx n37_18 st = thenS (codeB Try.prog E cx n37_19 st) (codeB Try.prog E cx n37_20) := GE.seq_step (by kernel_rfl)
theorem n37_33s : codeB Try.prog E ⟨f, 34, b, ro⟩ n37_33 st = plainS (runOps Try.prog E b q37_33 (ops [true, true, true, true, true, false] Try.f37) st) := GE.region_step (id := 9) (GE.reg_of (by kernel_rfl)) (by kernel_rfl)
theorem n37_34s : codeB Try.prog LL ⟨37, 34, b, ro⟩ n37_34 st = normS b ⟨[4], [⟨4, 0, 1, true⟩]⟩ .ret st := GE.ret_step (by kernel_rfl) (by kernel_rfl)
theorem n37_32s : codeB Try.prog E cx n37_32 st = thenS (codeB Try.prog E cx n37_33 st) (codeB Try.prog E cx n37_34) := GE.seq_step (by kernel_rfl)
theorem n37_17s : codeB Try.prog E cx n37_17 st = thenS (codeB Try.prog E cx n37_18 st) (codeB Try.prog E cx n37_32) := GE.seq_step (by kernel_rfl)
theorem n37_15s : codeB Try.prog E cx n37_15 st = thenS (codeB Try.prog E cx n37_16 st) (codeB Try.prog E cx n37_17) := GE.seq_step (by kernel_rfl)
theorem n37_4s : codeB Try.prog E cx n37_4 st = thenS (codeB Try.prog E cx n37_5 st) (codeB Try.prog E cx n37_15) := GE.seq_step (by kernel_rfl)
theorem n37_2s : codeB Try.prog E cx n37_2 st = thenS (codeB Try.prog E cx n37_3 st) (codeB Try.prog E cx n37_4) := GE.seq_step (by kernel_rfl)
theorem n37_0s : codeB Try.prog E cx n37_0 st = thenS (codeB Try.prog E cx n37_1 st) (codeB Try.prog E cx n37_2) := GE.seq_step (by kernel_rfl)
noncomputable def n39_0 : Code := bodyOf Try.f39
noncomputable def n39_1 : Code := cl n39_0
noncomputable def q39_1 : List Oper := opsOf n39_1
noncomputable def n39_2 : Code := cr n39_0
noncomputable def n39_3 : Code := cl n39_2
noncomputable def n39_4 : Code := cl n39_3
noncomputable def q39_4 : List Oper := opsOf n39_4
noncomputable def n39_5 : Code := cr n39_3
noncomputable def n39_6 : Code := cl n39_5
noncomputable def n39_7 : Code := cl n39_6
noncomputable def n39_8 : Code := cl n39_7
noncomputable def q39_8 : List Oper := opsOf n39_8
noncomputable def n39_9 : Code := cr n39_7
noncomputable def n39_10 : Code := cl n39_9
noncomputable def n39_11 : Code := cl n39_10
noncomputable def n39_12 : Code := cr n39_10
noncomputable def n39_13 : Code := cr n39_9
noncomputable def n39_14 : Code := cl n39_13
noncomputable def n39_15 : Code := cl n39_14
noncomputable def n39_16 : Code := cl n39_15
noncomputable def q39_16 : List Oper := opsOf n39_16
noncomputable def n39_17 : Code := cr n39_15
noncomputable def n39_18 : Code := cl n39_17
noncomputable def q39_18 : List Oper := opsOf n39_18
noncomputable def n39_19 : Code := cr n39_17
noncomputable def n39_20 : Code := cl n39_19
noncomputable def n39_21 : Code := cl n39_20
noncomputable def q39_21 : List Oper := opsOf n39_21
noncomputable def n39_22 : Code := cr n39_20
noncomputable def n39_23 : Code := cr n39_19
noncomputable def n39_24 : Code := cr n39_13
noncomputable def q39_24 : List Oper := opsOf n39_24
noncomputable def n39_25 : Code := cr n39_2
noncomputable def n39_26 : Code := cl n39_25
noncomputable def q39_26 : List Oper := opsOf n39_26
noncomputable def n39_27 : Code := cr n39_25
theorem body39 : Try.f39.body = some n39_0 := by kernel_rfl
theorem run39 (E : Ev) (args : List Value) (h : List Blk) (hl : args.length ≤ 17) : runB Try.prog E 39 args h = endS Try.prog [.tmp 4] h.length (codeB Try.prog E ⟨39, 17, h.length, none⟩ n39_0 ⟨enumT 0 args, h, []⟩) := GE.run_step Try.func39 body39 (by kernel_rfl) (by decide) (by kernel_rfl) hl
theorem n39_1s : codeB Try.prog E ⟨f, 17, b, ro⟩ n39_1 st = plainS (runOps Try.prog E b q39_1 (ops [false] Try.f39) st) := GE.region_step (id := 0) (GE.reg_of (by kernel_rfl)) (by kernel_rfl)
theorem n39_4s : codeB Try.prog E ⟨f, 17, b, ro⟩ n39_4 st = plainS (runOps Try.prog E b q39_4 (ops [true, false, false] Try.f39) st) := GE.region_step (id := 1) (GE.reg_of (by kernel_rfl)) (by kernel_rfl)
theorem n39_8s : codeB Try.prog E ⟨f, 17, b, ro⟩ n39_8 st = plainS (runOps Try.prog E b q39_8 (ops [true, false, true, false, false, false] Try.f39) st) := GE.region_step (id := 2) (GE.reg_of (by kernel_rfl)) (by kernel_rfl)
theorem n39_11s : codeB Try.prog E cx n39_11 st = some (.normal, st) := GE.skip_step (by kernel_rfl)
theorem n39_12s : codeB Try.prog LL ⟨39, 17, b, ro⟩ n39_12 st = normS b ⟨[], []⟩ (.exit 0) st := GE.exit_step (by kernel_rfl) (by kernel_rfl)
theorem n39_10s : codeB Try.prog E cx n39_10 st = condS (codeB Try.prog E cx n39_11) (codeB Try.prog E cx n39_12) (lk st.σ 10) st := GE.cond_step (c := .tmp 10) (by kernel_rfl)
theorem n39_16s : codeB Try.prog E ⟨f, 17, b, ro⟩ n39_16 st = plainS (runOps Try.prog E b q39_16 (ops [true, false, true, false, false, true, true, false, false, false] Try.f39) st) := GE.region_step (id := 3) (GE.reg_of (by kernel_rfl)) (by kernel_rfl)
theorem n39_18s : codeB Try.prog E ⟨f, 17, b, ro⟩ n39_18 st = plainS (runOps Try.prog E b q39_18 (ops [true, false, true, false, false, true, true, false, false, true, false] Try.f39) st) := GE.region_step (id := 4) (GE.reg_of (by kernel_rfl)) (by kernel_rfl)
theorem n39_21s : codeB Try.prog E ⟨f, 17, b, ro⟩ n39_21 st = plainS (runOps Try.prog E b q39_21 (ops [true, false, true, false, false, true, true, false, false, true, true, false, false] Try.f39) st) := GE.region_step (id := 5) (GE.reg_of (by kernel_rfl)) (by kernel_rfl)
theorem n39_22s : codeB Try.prog LL ⟨39, 17, b, ro⟩ n39_22 st = normS b ⟨[4], []⟩ .ret st := GE.ret_step (by kernel_rfl) (by kernel_rfl)
theorem n39_20s : codeB Try.prog E cx n39_20 st = thenS (codeB Try.prog E cx n39_21 st) (codeB Try.prog E cx n39_22) := GE.seq_step (by kernel_rfl)
theorem n39_23s : codeB Try.prog E cx n39_23 st = some (.normal, st) := GE.skip_step (by kernel_rfl)
theorem n39_19s : codeB Try.prog E cx n39_19 st = condS (codeB Try.prog E cx n39_20) (codeB Try.prog E cx n39_23) (lk st.σ 15) st := GE.cond_step (c := .tmp 15) (by kernel_rfl)
theorem n39_17s : codeB Try.prog E cx n39_17 st = thenS (codeB Try.prog E cx n39_18 st) (codeB Try.prog E cx n39_19) := GE.seq_step (by kernel_rfl)
theorem n39_15s : codeB Try.prog E cx n39_15 st = thenS (codeB Try.prog E cx n39_16 st) (codeB Try.prog E cx n39_17) := GE.seq_step (by kernel_rfl)
theorem n39_14s : codeB Try.prog E cx n39_14 st = blockS 1 (codeB Try.prog E cx n39_15 st) st := GE.block_step (by kernel_rfl)
theorem n39_24s : codeB Try.prog E ⟨f, 17, b, ro⟩ n39_24 st = plainS (runOps Try.prog E b q39_24 (ops [true, false, true, false, false, true, true, true] Try.f39) st) := GE.region_step (id := 6) (GE.reg_of (by kernel_rfl)) (by kernel_rfl)
theorem n39_13s : codeB Try.prog E cx n39_13 st = thenS (codeB Try.prog E cx n39_14 st) (codeB Try.prog E cx n39_24) := GE.seq_step (by kernel_rfl)
theorem n39_9s : codeB Try.prog E cx n39_9 st = thenS (codeB Try.prog E cx n39_10 st) (codeB Try.prog E cx n39_13) := GE.seq_step (by kernel_rfl)
theorem n39_7s : codeB Try.prog E cx n39_7 st = thenS (codeB Try.prog E cx n39_8 st) (codeB Try.prog E cx n39_9) := GE.seq_step (by kernel_rfl)
theorem n39_6k : LL.kp (⟨39, 17, b, ro⟩ : Cx).fn (4 * rid n39_7 + 3) = some ⟨[1, 7, 8, 9], [⟨7, 0, 1, true⟩]⟩ := by kernel_rfl
theorem n39_6s : codeB Try.prog LL ⟨39, 17, b, ro⟩ n39_6 st = headS b ⟨[1, 7, 8, 9], [⟨7, 0, 1, true⟩]⟩ st (lpB Try.prog LL ⟨39, 17, b, ro⟩ n39_6 n39_7) := GE.lpB_step (by kernel_rfl) (n39_6k b ro)
theorem n39_6g : LL.code ⟨39, 17, b, ro⟩ n39_6 st = headS b ⟨[1, 7, 8, 9], [⟨7, 0, 1, true⟩]⟩ st (lpB Try.prog LL ⟨39, 17, b, ro⟩ n39_6 n39_7) := GE.lpB_again (by kernel_rfl) (n39_6k b ro)
theorem n39_5s : codeB Try.prog E cx n39_5 st = blockS 0 (codeB Try.prog E cx n39_6 st) st := GE.block_step (by kernel_rfl)
theorem n39_3s : codeB Try.prog E cx n39_3 st = thenS (codeB Try.prog E cx n39_4 st) (codeB Try.prog E cx n39_5) := GE.seq_step (by kernel_rfl)
theorem n39_26s : codeB Try.prog E ⟨f, 17, b, ro⟩ n39_26 st = plainS (runOps Try.prog E b q39_26 (ops [true, true, false] Try.f39) st) := GE.region_step (id := 7) (GE.reg_of (by kernel_rfl)) (by kernel_rfl)
theorem n39_27s : codeB Try.prog LL ⟨39, 17, b, ro⟩ n39_27 st = normS b ⟨[4], []⟩ .ret st := GE.ret_step (by kernel_rfl) (by kernel_rfl)
theorem n39_25s : codeB Try.prog E cx n39_25 st = thenS (codeB Try.prog E cx n39_26 st) (codeB Try.prog E cx n39_27) := GE.seq_step (by kernel_rfl)
theorem n39_2s : codeB Try.prog E cx n39_2 st = thenS (codeB Try.prog E cx n39_3 st) (codeB Try.prog E cx n39_25) := GE.seq_step (by kernel_rfl)
theorem n39_0s : codeB Try.prog E cx n39_0 st = thenS (codeB Try.prog E cx n39_1 st) (codeB Try.prog E cx n39_2) := GE.seq_step (by kernel_rfl)
noncomputable def n40_0 : Code := bodyOf Try.f40
noncomputable def n40_1 : Code := cl n40_0
noncomputable def q40_1 : List Oper := opsOf n40_1
noncomputable def n40_2 : Code := cr n40_0
noncomputable def n40_3 : Code := cl n40_2
noncomputable def q40_3 : List Oper := opsOf n40_3
noncomputable def n40_4 : Code := cr n40_2
theorem body40 : Try.f40.body = some n40_0 := by kernel_rfl
theorem run40 (E : Ev) (args : List Value) (h : List Blk) (hl : args.length ≤ 6) : runB Try.prog E 40 args h = endS Try.prog [.tmp 4] h.length (codeB Try.prog E ⟨40, 6, h.length, none⟩ n40_0 ⟨enumT 0 args, h, []⟩) := GE.run_step Try.func40 body40 (by kernel_rfl) (by decide) (by kernel_rfl) hl
theorem n40_1s : codeB Try.prog E ⟨f, 6, b, ro⟩ n40_1 st = plainS (runOps Try.prog E b q40_1 (ops [false] Try.f40) st) := GE.region_step (id := 0) (GE.reg_of (by kernel_rfl)) (by kernel_rfl)
theorem n40_3s : codeB Try.prog E ⟨f, 6, b, ro⟩ n40_3 st = plainS (runOps Try.prog E b q40_3 (ops [true, false] Try.f40) st) := GE.region_step (id := 1) (GE.reg_of (by kernel_rfl)) (by kernel_rfl)
theorem n40_4s : codeB Try.prog LL ⟨40, 6, b, ro⟩ n40_4 st = normS b ⟨[4], []⟩ .ret st := GE.ret_step (by kernel_rfl) (by kernel_rfl)
theorem n40_2s : codeB Try.prog E cx n40_2 st = thenS (codeB Try.prog E cx n40_3 st) (codeB Try.prog E cx n40_4) := GE.seq_step (by kernel_rfl)
theorem n40_0s : codeB Try.prog E cx n40_0 st = thenS (codeB Try.prog E cx n40_1 st) (codeB Try.prog E cx n40_2) := GE.seq_step (by kernel_rfl)
noncomputable def n42_0 : Code := bodyOf Try.f42
noncomputable def n42_1 : Code := cl n42_0
noncomputable def q42_1 : List Oper := opsOf n42_1
noncomputable def n42_2 : Code := cr n42_0
noncomputable def n42_3 : Code := cl n42_2
noncomputable def n42_4 : Code := cl n42_3
noncomputable def q42_4 : List Oper := opsOf n42_4
noncomputable def n42_5 : Code := cr n42_3
noncomputable def n42_6 : Code := cl n42_5
noncomputable def n42_7 : Code := cl n42_6
noncomputable def n42_8 : Code := cl n42_7
noncomputable def q42_8 : List Oper := opsOf n42_8
noncomputable def n42_9 : Code := cr n42_7
noncomputable def n42_10 : Code := cl n42_9
noncomputable def n42_11 : Code := cl n42_10
noncomputable def n42_12 : Code := cr n42_10
noncomputable def n42_13 : Code := cr n42_9
noncomputable def n42_14 : Code := cl n42_13
noncomputable def n42_15 : Code := cl n42_14
noncomputable def q42_15 : List Oper := opsOf n42_15
noncomputable def n42_16 : Code := cr n42_14
noncomputable def n42_17 : Code := cl n42_16
noncomputable def q42_17 : List Oper := opsOf n42_17
noncomputable def n42_18 : Code := cr n42_16
noncomputable def n42_19 : Code := cl n42_18
noncomputable def n42_20 : Code := cl n42_19
noncomputable def q42_20 : List Oper := opsOf n42_20
noncomputable def n42_21 : Code := cr n42_19
noncomputable def n42_22 : Code := cr n42_18
noncomputable def n42_23 : Code := cr n42_2
noncomputable def n42_24 : Code := cl n42_23
noncomputable def q42_24 : List Oper := opsOf n42_24
noncomputable def n42_25 : Code := cr n42_23
theorem body42 : Try.f42.body = some n42_0 := by kernel_rfl
theorem run42 (E : Ev) (args : List Value) (h : List Blk) (hl : args.length ≤ 16) : runB Try.prog E 42 args h = endS Try.prog [.tmp 4] h.length (codeB Try.prog E ⟨42, 16, h.length, none⟩ n42_0 ⟨enumT 0 args, h, []⟩) := GE.run_step Try.func42 body42 (by kernel_rfl) (by decide) (by kernel_rfl) hl
theorem n42_1s : codeB Try.prog E ⟨f, 16, b, ro⟩ n42_1 st = plainS (runOps Try.prog E b q42_1 (ops [false] Try.f42) st) := GE.region_step (id := 0) (GE.reg_of (by kernel_rfl)) (by kernel_rfl)
theorem n42_4s : codeB Try.prog E ⟨f, 16, b, ro⟩ n42_4 st = plainS (runOps Try.prog E b q42_4 (ops [true, false, false] Try.f42) st) := GE.region_step (id := 1) (GE.reg_of (by kernel_rfl)) (by kernel_rfl)
theorem n42_8s : codeB Try.prog E ⟨f, 16, b, ro⟩ n42_8 st = plainS (runOps Try.prog E b q42_8 (ops [true, false, true, false, false, false] Try.f42) st) := GE.region_step (id := 2) (GE.reg_of (by kernel_rfl)) (by kernel_rfl)
theorem n42_11s : codeB Try.prog E cx n42_11 st = some (.normal, st) := GE.skip_step (by kernel_rfl)
theorem n42_12s : codeB Try.prog LL ⟨42, 16, b, ro⟩ n42_12 st = normS b ⟨[], []⟩ (.exit 0) st := GE.exit_step (by kernel_rfl) (by kernel_rfl)
theorem n42_10s : codeB Try.prog E cx n42_10 st = condS (codeB Try.prog E cx n42_11) (codeB Try.prog E cx n42_12) (lk st.σ 10) st := GE.cond_step (c := .tmp 10) (by kernel_rfl)
theorem n42_15s : codeB Try.prog E ⟨f, 16, b, ro⟩ n42_15 st = plainS (runOps Try.prog E b q42_15 (ops [true, false, true, false, false, true, true, false, false] Try.f42) st) := GE.region_step (id := 3) (GE.reg_of (by kernel_rfl)) (by kernel_rfl)
theorem n42_17s : codeB Try.prog E ⟨f, 16, b, ro⟩ n42_17 st = plainS (runOps Try.prog E b q42_17 (ops [true, false, true, false, false, true, true, false, true, false] Try.f42) st) := GE.region_step (id := 4) (GE.reg_of (by kernel_rfl)) (by kernel_rfl)
theorem n42_20s : codeB Try.prog E ⟨f, 16, b, ro⟩ n42_20 st = plainS (runOps Try.prog E b q42_20 (ops [true, false, true, false, false, true, true, false, true, true, false, false] Try.f42) st) := GE.region_step (id := 5) (GE.reg_of (by kernel_rfl)) (by kernel_rfl)
theorem n42_21s : codeB Try.prog LL ⟨42, 16, b, ro⟩ n42_21 st = normS b ⟨[4], []⟩ .ret st := GE.ret_step (by kernel_rfl) (by kernel_rfl)
theorem n42_19s : codeB Try.prog E cx n42_19 st = thenS (codeB Try.prog E cx n42_20 st) (codeB Try.prog E cx n42_21) := GE.seq_step (by kernel_rfl)
theorem n42_22s : codeB Try.prog E cx n42_22 st = some (.normal, st) := GE.skip_step (by kernel_rfl)
theorem n42_18s : codeB Try.prog E cx n42_18 st = condS (codeB Try.prog E cx n42_19) (codeB Try.prog E cx n42_22) (lk st.σ 15) st := GE.cond_step (c := .tmp 15) (by kernel_rfl)
theorem n42_16s : codeB Try.prog E cx n42_16 st = thenS (codeB Try.prog E cx n42_17 st) (codeB Try.prog E cx n42_18) := GE.seq_step (by kernel_rfl)
theorem n42_14s : codeB Try.prog E cx n42_14 st = thenS (codeB Try.prog E cx n42_15 st) (codeB Try.prog E cx n42_16) := GE.seq_step (by kernel_rfl)
theorem n42_13s : codeB Try.prog E cx n42_13 st = blockS 1 (codeB Try.prog E cx n42_14 st) st := GE.block_step (by kernel_rfl)
theorem n42_9s : codeB Try.prog E cx n42_9 st = thenS (codeB Try.prog E cx n42_10 st) (codeB Try.prog E cx n42_13) := GE.seq_step (by kernel_rfl)
theorem n42_7s : codeB Try.prog E cx n42_7 st = thenS (codeB Try.prog E cx n42_8 st) (codeB Try.prog E cx n42_9) := GE.seq_step (by kernel_rfl)
theorem n42_6k : LL.kp (⟨42, 16, b, ro⟩ : Cx).fn (4 * rid n42_7 + 3) = some ⟨[1, 8], []⟩ := by kernel_rfl
theorem n42_6s : codeB Try.prog LL ⟨42, 16, b, ro⟩ n42_6 st = headS b ⟨[1, 8], []⟩ st (lpB Try.prog LL ⟨42, 16, b, ro⟩ n42_6 n42_7) := GE.lpB_step (by kernel_rfl) (n42_6k b ro)
theorem n42_6g : LL.code ⟨42, 16, b, ro⟩ n42_6 st = headS b ⟨[1, 8], []⟩ st (lpB Try.prog LL ⟨42, 16, b, ro⟩ n42_6 n42_7) := GE.lpB_again (by kernel_rfl) (n42_6k b ro)
theorem n42_5s : codeB Try.prog E cx n42_5 st = blockS 0 (codeB Try.prog E cx n42_6 st) st := GE.block_step (by kernel_rfl)
theorem n42_3s : codeB Try.prog E cx n42_3 st = thenS (codeB Try.prog E cx n42_4 st) (codeB Try.prog E cx n42_5) := GE.seq_step (by kernel_rfl)
theorem n42_24s : codeB Try.prog E ⟨f, 16, b, ro⟩ n42_24 st = plainS (runOps Try.prog E b q42_24 (ops [true, true, false] Try.f42) st) := GE.region_step (id := 6) (GE.reg_of (by kernel_rfl)) (by kernel_rfl)
theorem n42_25s : codeB Try.prog LL ⟨42, 16, b, ro⟩ n42_25 st = normS b ⟨[4], []⟩ .ret st := GE.ret_step (by kernel_rfl) (by kernel_rfl)
theorem n42_23s : codeB Try.prog E cx n42_23 st = thenS (codeB Try.prog E cx n42_24 st) (codeB Try.prog E cx n42_25) := GE.seq_step (by kernel_rfl)
theorem n42_2s : codeB Try.prog E cx n42_2 st = thenS (codeB Try.prog E cx n42_3 st) (codeB Try.prog E cx n42_23) := GE.seq_step (by kernel_rfl)
theorem n42_0s : codeB Try.prog E cx n42_0 st = thenS (codeB Try.prog E cx n42_1 st) (codeB Try.prog E cx n42_2) := GE.seq_step (by kernel_rfl)
noncomputable def n45_0 : Code := bodyOf Try.f45
noncomputable def n45_1 : Code := cl n45_0
noncomputable def q45_1 : List Oper := opsOf n45_1
noncomputable def n45_2 : Code := cr n45_0
noncomputable def n45_3 : Code := cl n45_2
noncomputable def q45_3 : List Oper := opsOf n45_3
noncomputable def n45_4 : Code := cr n45_2
noncomputable def n45_5 : Code := cl n45_4
noncomputable def n45_6 : Code := cl n45_5
noncomputable def q45_6 : List Oper := opsOf n45_6
noncomputable def n45_7 : Code := cr n45_5
noncomputable def n45_8 : Code := cl n45_7
noncomputable def n45_9 : Code := cl n45_8
noncomputable def q45_9 : List Oper := opsOf n45_9
noncomputable def n45_10 : Code := cr n45_8
noncomputable def n45_11 : Code := cl n45_10
noncomputable def n45_12 : Code := cl n45_11
noncomputable def n45_13 : Code := cl n45_12
noncomputable def q45_13 : List Oper := opsOf n45_13
noncomputable def n45_14 : Code := cr n45_12
noncomputable def n45_15 : Code := cl n45_14
noncomputable def n45_16 : Code := cl n45_15
noncomputable def q45_16 : List Oper := opsOf n45_16
noncomputable def n45_17 : Code := cr n45_15
noncomputable def n45_18 : Code := cr n45_14
noncomputable def n45_19 : Code := cr n45_11
noncomputable def q45_19 : List Oper := opsOf n45_19
noncomputable def n45_20 : Code := cr n45_4
noncomputable def n45_21 : Code := cl n45_20
noncomputable def q45_21 : List Oper := opsOf n45_21
noncomputable def n45_22 : Code := cr n45_20
theorem body45 : Try.f45.body = some n45_0 := by kernel_rfl
theorem run45 (E : Ev) (args : List Value) (h : List Blk) (hl : args.length ≤ 19) : runB Try.prog E 45 args h = endS Try.prog [.cell 4 4] h.length (codeB Try.prog E ⟨45, 19, h.length, none⟩ n45_0 ⟨enumT 0 args, h, []⟩) := GE.run_step Try.func45 body45 (by kernel_rfl) (by decide) (by kernel_rfl) hl
theorem n45_1s : codeB Try.prog E ⟨f, 19, b, ro⟩ n45_1 st = plainS (runOps Try.prog E b q45_1 (ops [false] Try.f45) st) := GE.region_step (id := 0) (GE.reg_of (by kernel_rfl)) (by kernel_rfl)
theorem n45_3s : codeB Try.prog E ⟨f, 19, b, ro⟩ n45_3 st = plainS (runOps Try.prog E b q45_3 (ops [true, false] Try.f45) st) := GE.region_step (id := 1) (GE.reg_of (by kernel_rfl)) (by kernel_rfl)
theorem n45_6s : codeB Try.prog E ⟨f, 19, b, ro⟩ n45_6 st = plainS (runOps Try.prog E b q45_6 (ops [true, true, false, false] Try.f45) st) := GE.region_step (id := 2) (GE.reg_of (by kernel_rfl)) (by kernel_rfl)
theorem n45_9s : codeB Try.prog E ⟨f, 19, b, ro⟩ n45_9 st = plainS (runOps Try.prog E b q45_9 (ops [true, true, false, true, false, false] Try.f45) st) := GE.region_step (id := 3) (GE.reg_of (by kernel_rfl)) (by kernel_rfl)
theorem n45_13s : codeB Try.prog E ⟨f, 19, b, ro⟩ n45_13 st = plainS (runOps Try.prog E b q45_13 (ops [true, true, false, true, false, true, false, false, false] Try.f45) st) := GE.region_step (id := 4) (GE.reg_of (by kernel_rfl)) (by kernel_rfl)
theorem n45_16s : codeB Try.prog E ⟨f, 19, b, ro⟩ n45_16 st = plainS (runOps Try.prog E b q45_16 (ops [true, true, false, true, false, true, false, false, true, false, false] Try.f45) st) := GE.region_step (id := 5) (GE.reg_of (by kernel_rfl)) (by kernel_rfl)
theorem n45_17s : codeB Try.prog LL ⟨45, 19, b, ro⟩ n45_17 st = normS b ⟨[4], []⟩ .ret st := GE.ret_step (by kernel_rfl) (by kernel_rfl)
theorem n45_15s : codeB Try.prog E cx n45_15 st = thenS (codeB Try.prog E cx n45_16 st) (codeB Try.prog E cx n45_17) := GE.seq_step (by kernel_rfl)
theorem n45_18s : codeB Try.prog E cx n45_18 st = some (.normal, st) := GE.skip_step (by kernel_rfl)
theorem n45_14s : codeB Try.prog E cx n45_14 st = condS (codeB Try.prog E cx n45_15) (codeB Try.prog E cx n45_18) (lk st.σ 16) st := GE.cond_step (c := .tmp 16) (by kernel_rfl)
theorem n45_12s : codeB Try.prog E cx n45_12 st = thenS (codeB Try.prog E cx n45_13 st) (codeB Try.prog E cx n45_14) := GE.seq_step (by kernel_rfl)
theorem n45_19s : codeB Try.prog E ⟨f, 19, b, ro⟩ n45_19 st = plainS (runOps Try.prog E b q45_19 (ops [true, true, false, true, false, true, false, true] Try.f45) st) := GE.region_step (id := 6) (GE.reg_of (by kernel_rfl)) (by kernel_rfl)
theorem n45_11s : codeB Try.prog E cx n45_11 st = thenS (codeB Try.prog E cx n45_12 st) (codeB Try.prog E cx n45_19) := GE.seq_step (by kernel_rfl)
theorem n45_10s : codeB Try.prog E cx n45_10 st = blockS 1 (codeB Try.prog E cx n45_11 st) st := GE.block_step (by kernel_rfl)
theorem n45_8e : n45_8 = .rangeFunc (.tmp 11) #[12, 13] n45_9 n45_10 := by kernel_rfl
theorem n45_8k : (ue n45_9).1 ++ (ue n45_10).1 = [13, 5, 7, 4] := by kernel_rfl
theorem n45_7s : codeB Try.prog E cx n45_7 st = blockS 0 (codeB Try.prog E cx n45_8 st) st := GE.block_step (by kernel_rfl)
theorem n45_5s : codeB Try.prog E cx n45_5 st = thenS (codeB Try.prog E cx n45_6 st) (codeB Try.prog E cx n45_7) := GE.seq_step (by kernel_rfl)
theorem n45_21s : codeB Try.prog E ⟨f, 19, b, ro⟩ n45_21 st = plainS (runOps Try.prog E b q45_21 (ops [true, true, true, false] Try.f45) st) := GE.region_step (id := 7) (GE.reg_of (by kernel_rfl)) (by kernel_rfl)
theorem n45_22s : codeB Try.prog LL ⟨45, 19, b, ro⟩ n45_22 st = normS b ⟨[4], []⟩ .ret st := GE.ret_step (by kernel_rfl) (by kernel_rfl)
theorem n45_20s : codeB Try.prog E cx n45_20 st = thenS (codeB Try.prog E cx n45_21 st) (codeB Try.prog E cx n45_22) := GE.seq_step (by kernel_rfl)
theorem n45_4s : codeB Try.prog E cx n45_4 st = thenS (codeB Try.prog E cx n45_5 st) (codeB Try.prog E cx n45_20) := GE.seq_step (by kernel_rfl)
theorem n45_2s : codeB Try.prog E cx n45_2 st = thenS (codeB Try.prog E cx n45_3 st) (codeB Try.prog E cx n45_4) := GE.seq_step (by kernel_rfl)
theorem n45_0s : codeB Try.prog E cx n45_0 st = thenS (codeB Try.prog E cx n45_1 st) (codeB Try.prog E cx n45_2) := GE.seq_step (by kernel_rfl)
noncomputable def n55_0 : Code := bodyOf Try.f55
noncomputable def n55_1 : Code := cl n55_0
noncomputable def q55_1 : List Oper := opsOf n55_1
noncomputable def n55_2 : Code := cr n55_0
noncomputable def n55_3 : Code := cl n55_2
noncomputable def q55_3 : List Oper := opsOf n55_3
noncomputable def n55_4 : Code := cr n55_2
noncomputable def n55_5 : Code := cl n55_4
noncomputable def n55_6 : Code := cl n55_5
noncomputable def n55_7 : Code := cl n55_6
noncomputable def q55_7 : List Oper := opsOf n55_7
noncomputable def n55_8 : Code := cr n55_6
noncomputable def n55_9 : Code := cl n55_8
noncomputable def n55_10 : Code := cl n55_9
noncomputable def n55_11 : Code := cr n55_9
noncomputable def n55_12 : Code := cr n55_8
noncomputable def n55_13 : Code := cl n55_12
noncomputable def n55_14 : Code := cl n55_13
noncomputable def q55_14 : List Oper := opsOf n55_14
noncomputable def n55_15 : Code := cr n55_13
noncomputable def n55_16 : Code := cl n55_15
noncomputable def q55_16 : List Oper := opsOf n55_16
noncomputable def n55_17 : Code := cr n55_15
noncomputable def n55_18 : Code := cl n55_17
noncomputable def n55_19 : Code := cr n55_17
theorem body55 : Try.f55.body = some n55_0 := by kernel_rfl
theorem run55 (E : Ev) (args : List Value) (h : List Blk) (hl : args.length ≤ 28) : runB Try.prog E 55 args h = endS Try.prog [] h.length (codeB Try.prog E ⟨55, 28, h.length, none⟩ n55_0 ⟨enumT 0 args, h, []⟩) := GE.run_step Try.func55 body55 (by kernel_rfl) (by decide) (by kernel_rfl) hl
theorem n55_1s : codeB Try.prog E ⟨f, 28, b, ro⟩ n55_1 st = drawS [0, 0, 0, 4, 14, 30, 63, 127] (runOpsF Try.prog E b q55_1 (ops [false] Try.f55) st) := GE.draw_step (id := 0) (GE.reg_of (by kernel_rfl)) (by kernel_rfl) (by kernel_rfl) (by kernel_rfl)
theorem n55_3s : codeB Try.prog E ⟨f, 28, b, ro⟩ n55_3 st = plainS (runOps Try.prog E b q55_3 (ops [true, false] Try.f55) st) := GE.region_step (id := 1) (GE.reg_of (by kernel_rfl)) (by kernel_rfl)
theorem n55_7s : codeB Try.prog E ⟨f, 28, b, ro⟩ n55_7 st = plainS (runOps Try.prog E b q55_7 (ops [true, true, false, false, false] Try.f55) st) := GE.region_step (id := 2) (GE.reg_of (by kernel_rfl)) (by kernel_rfl)
theorem n55_10s : codeB Try.prog E cx n55_10 st = some (.normal, st) := GE.skip_step (by kernel_rfl)
theorem n55_11s : codeB Try.prog LL ⟨55, 28, b, ro⟩ n55_11 st = normS b ⟨[], []⟩ (.exit 0) st := GE.exit_step (by kernel_rfl) (by kernel_rfl)
theorem n55_9s : codeB Try.prog E cx n55_9 st = condS (codeB Try.prog E cx n55_10) (codeB Try.prog E cx n55_11) (lk st.σ 16) st := GE.cond_step (c := .tmp 16) (by kernel_rfl)
theorem n55_14s : codeB Try.prog E ⟨f, 28, b, ro⟩ n55_14 st = plainS (runOps Try.prog E b q55_14 (ops [true, true, false, false, true, true, false, false] Try.f55) st) := GE.region_step (id := 3) (GE.reg_of (by kernel_rfl)) (by kernel_rfl)
theorem n55_16s : codeB Try.prog E ⟨f, 28, b, ro⟩ n55_16 st = plainS (runOps Try.prog E b q55_16 (ops [true, true, false, false, true, true, false, true, false] Try.f55) st) := GE.region_step (id := 4) (GE.reg_of (by kernel_rfl)) (by kernel_rfl)
theorem n55_18s : codeB Try.prog LL ⟨55, 28, b, ro⟩ n55_18 st = normS b ⟨[], []⟩ .ret st := GE.ret_step (by kernel_rfl) (by kernel_rfl)
theorem n55_19s : codeB Try.prog E cx n55_19 st = some (.normal, st) := GE.skip_step (by kernel_rfl)
theorem n55_17s : codeB Try.prog E cx n55_17 st = condS (codeB Try.prog E cx n55_18) (codeB Try.prog E cx n55_19) (lk st.σ 27) st := GE.cond_step (c := .tmp 27) (by kernel_rfl)
theorem n55_15s : codeB Try.prog E cx n55_15 st = thenS (codeB Try.prog E cx n55_16 st) (codeB Try.prog E cx n55_17) := GE.seq_step (by kernel_rfl)
theorem n55_13s : codeB Try.prog E cx n55_13 st = thenS (codeB Try.prog E cx n55_14 st) (codeB Try.prog E cx n55_15) := GE.seq_step (by kernel_rfl)
theorem n55_12s : codeB Try.prog E cx n55_12 st = blockS 1 (codeB Try.prog E cx n55_13 st) st := GE.block_step (by kernel_rfl)
theorem n55_8s : codeB Try.prog E cx n55_8 st = thenS (codeB Try.prog E cx n55_9 st) (codeB Try.prog E cx n55_12) := GE.seq_step (by kernel_rfl)
theorem n55_6s : codeB Try.prog E cx n55_6 st = thenS (codeB Try.prog E cx n55_7 st) (codeB Try.prog E cx n55_8) := GE.seq_step (by kernel_rfl)
theorem n55_5k : LL.kp (⟨55, 28, b, ro⟩ : Cx).fn (4 * rid n55_6 + 3) = some ⟨[0, 2, 4, 14], []⟩ := by kernel_rfl
theorem n55_5s : codeB Try.prog LL ⟨55, 28, b, ro⟩ n55_5 st = headS b ⟨[0, 2, 4, 14], []⟩ st (lpB Try.prog LL ⟨55, 28, b, ro⟩ n55_5 n55_6) := GE.lpB_step (by kernel_rfl) (n55_5k b ro)
theorem n55_5g : LL.code ⟨55, 28, b, ro⟩ n55_5 st = headS b ⟨[0, 2, 4, 14], []⟩ st (lpB Try.prog LL ⟨55, 28, b, ro⟩ n55_5 n55_6) := GE.lpB_again (by kernel_rfl) (n55_5k b ro)
theorem n55_4s : codeB Try.prog E cx n55_4 st = blockS 0 (codeB Try.prog E cx n55_5 st) st := GE.block_step (by kernel_rfl)
theorem n55_2s : codeB Try.prog E cx n55_2 st = thenS (codeB Try.prog E cx n55_3 st) (codeB Try.prog E cx n55_4) := GE.seq_step (by kernel_rfl)
theorem n55_0s : codeB Try.prog E cx n55_0 st = thenS (codeB Try.prog E cx n55_1 st) (codeB Try.prog E cx n55_2) := GE.seq_step (by kernel_rfl)
theorem ia_46 : aggK Try.prog 46 = some (true, 2) := by kernel_rfl
theorem cv_5_3 : convK Try.prog 5 3 = some .i64 := by kernel_rfl
theorem es_26 : elemK Try.prog 26 = some (none, 1) := by kernel_rfl
theorem ia_9 : aggK Try.prog 9 = some (false, 1) := by kernel_rfl
theorem lk_51 : lenK Try.prog 51 = some .sl := by kernel_rfl
theorem es_51 : elemK Try.prog 51 = some (none, 1) := by kernel_rfl
theorem sz_5 : aggSize Try.prog 5 = some 1 := by kernel_rfl
theorem sl_51 : elemK Try.prog 51 = some (none, 1) := by kernel_rfl
theorem lk_26 : lenK Try.prog 26 = some .sl := by kernel_rfl
theorem ia_5 : aggK Try.prog 5 = some (false, 1) := by kernel_rfl
theorem lk_34 : lenK Try.prog 34 = some .sl := by kernel_rfl
theorem es_34 : elemK Try.prog 34 = some (none, 1) := by kernel_rfl
theorem ia_3 : aggK Try.prog 3 = some (false, 1) := by kernel_rfl
theorem za_34 : zeroA Try.prog 34 = some (.slice none 0 0) := by kernel_rfl
theorem ia_34 : aggK Try.prog 34 = some (false, 1) := by kernel_rfl
theorem ze_34 : zeroE Try.prog 34 = some (.int .i64 (0)) := by kernel_rfl
theorem ba_34_1 : baseArr (Value.cells (.int .i64 (0))) (1 * 1) = #[(.int .i64 (0))] := by kernel_rfl
theorem ap_34 : apK Try.prog 34 = some (1, 8) := by kernel_rfl
theorem ni_34 : notInt Try.prog 34 = true := by kernel_rfl
theorem sz_34 : aggSize Try.prog 34 = some 1 := by kernel_rfl
theorem fa_46_1 : fieldAt Try.prog 46 1 = some (1, 1) := by kernel_rfl
theorem fa_46_0 : fieldAt Try.prog 46 0 = some (0, 1) := by kernel_rfl
theorem ia_44 : aggK Try.prog 44 = some (false, 1) := by kernel_rfl
theorem cv_44_5 : convK Try.prog 44 5 = some .u8 := by kernel_rfl
theorem ze_26 : zeroE Try.prog 26 = some (.string .empty) := by kernel_rfl
theorem ba_26_1 : baseArr (Value.cells (.string .empty)) (1 * 1) = #[(.string .empty)] := by kernel_rfl
theorem ap_26 : apK Try.prog 26 = some (1, 16) := by kernel_rfl
theorem ni_26 : notInt Try.prog 26 = true := by kernel_rfl
theorem za_4 : zeroA Try.prog 4 = some (.bool false) := by kernel_rfl
theorem za_80 : zeroA Try.prog 80 = some (.map none) := by kernel_rfl
theorem sz_80 : aggSize Try.prog 80 = some 1 := by kernel_rfl
theorem ia_80 : aggK Try.prog 80 = some (false, 1) := by kernel_rfl
theorem sz_4 : aggSize Try.prog 4 = some 1 := by kernel_rfl
theorem ia_4 : aggK Try.prog 4 = some (false, 1) := by kernel_rfl

end Go.Proofs.Ytjimphlkhjmaiaa.sw
