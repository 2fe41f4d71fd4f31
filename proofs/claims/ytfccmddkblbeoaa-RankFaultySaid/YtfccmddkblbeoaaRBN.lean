/-
  Names for the nodes of the code of some functions (projections of their bodies), the step of each node, and the facts of types that they use.
-/
import Derived.Test.YtfccmddkblbeoaaKp
namespace Go.Proofs.Ytfccmddkblbeoaa.rk
open Go.GE
set_option maxRecDepth 100000
variable (E : Ev) (cx : Cx) (st : St) (f nt b : Nat) (ro : Option Nat)
noncomputable def n13_0 : Code := bodyOf Try.f13
noncomputable def n13_1 : Code := cl n13_0
noncomputable def q13_1 : List Oper := opsOf n13_1
noncomputable def n13_2 : Code := cr n13_0
noncomputable def n13_3 : Code := cl n13_2
noncomputable def q13_3 : List Oper := opsOf n13_3
noncomputable def n13_4 : Code := cr n13_2
noncomputable def n13_5 : Code := cl n13_4
noncomputable def q13_5 : List Oper := opsOf n13_5
noncomputable def n13_6 : Code := cr n13_4
noncomputable def n13_7 : Code := cl n13_6
noncomputable def q13_7 : List Oper := opsOf n13_7
noncomputable def n13_8 : Code := cr n13_6
noncomputable def n13_9 : Code := cl n13_8
noncomputable def q13_9 : List Oper := opsOf n13_9
noncomputable def n13_10 : Code := cr n13_8
noncomputable def n13_11 : Code := cl n13_10
noncomputable def q13_11 : List Oper := opsOf n13_11
noncomputable def n13_12 : Code := cr n13_10
noncomputable def n13_13 : Code := cl n13_12
noncomputable def q13_13 : List Oper := opsOf n13_13
noncomputable def n13_14 : Code := cr n13_12
noncomputable def n13_15 : Code := cl n13_14
noncomputable def n13_16 : Code := cl n13_15
noncomputable def q13_16 : List Oper := opsOf n13_16
noncomputable def n13_17 : Code := cr n13_15
noncomputable def n13_18 : Code := cl n13_17
noncomputable def n13_19 : Code := cl n13_18
noncomputable def q13_19 : List Oper := opsOf n13_19
noncomputable def n13_20 : Code := cr n13_18
noncomputable def n13_21 : Code := cr n13_17
noncomputable def n13_22 : Code := cr n13_14
noncomputable def n13_23 : Code := cl n13_22
noncomputable def n13_24 : Code := cl n13_23
noncomputable def q13_24 : List Oper := opsOf n13_24
noncomputable def n13_25 : Code := cr n13_23
noncomputable def n13_26 : Code := cl n13_25
noncomputable def n13_27 : Code := cl n13_26
noncomputable def q13_27 : List Oper := opsOf n13_27
noncomputable def n13_28 : Code := cr n13_26
noncomputable def n13_29 : Code := cr n13_25
noncomputable def n13_30 : Code := cr n13_22
noncomputable def n13_31 : Code := cl n13_30
noncomputable def n13_32 : Code := cl n13_31
noncomputable def q13_32 : List Oper := opsOf n13_32
noncomputable def n13_33 : Code := cr n13_31
noncomputable def n13_34 : Code := cl n13_33
noncomputable def n13_35 : Code := cl n13_34
noncomputable def q13_35 : List Oper := opsOf n13_35
noncomputable def n13_36 : Code := cr n13_34
noncomputable def n13_37 : Code := cr n13_33
noncomputable def n13_38 : Code := cr n13_30
noncomputable def n13_39 : Code := cl n13_38
noncomputable def n13_40 : Code := cl n13_39
noncomputable def q13_40 : List Oper := opsOf n13_40
noncomputable def n13_41 : Code := cr n13_39
noncomputable def n13_42 : Code := cl n13_41
noncomputable def n13_43 : Code := cl n13_42
noncomputable def n13_44 : Code := cl n13_43
noncomputable def q13_44 : List Oper := opsOf n13_44
noncomputable def n13_45 : Code := cr n13_43
noncomputable def n13_46 : Code := cl n13_45
noncomputable def n13_47 : Code := cl n13_46
noncomputable def n13_48 : Code := cr n13_46
noncomputable def n13_49 : Code := cr n13_45
noncomputable def n13_50 : Code := cl n13_49
noncomputable def n13_51 : Code := cl n13_50
noncomputable def n13_52 : Code := cl n13_51
noncomputable def q13_52 : List Oper := opsOf n13_52
noncomputable def n13_53 : Code := cr n13_51
noncomputable def n13_54 : Code := cl n13_53
noncomputable def q13_54 : List Oper := opsOf n13_54
noncomputable def n13_55 : Code := cr n13_53
noncomputable def n13_56 : Code := cl n13_55
noncomputable def n13_57 : Code := cl n13_56
noncomputable def n13_58 : Code := cl n13_57
noncomputable def n13_59 : Code := cl n13_58
noncomputable def q13_59 : List Oper := opsOf n13_59
noncomputable def n13_60 : Code := cr n13_58
noncomputable def n13_61 : Code := cl n13_60
noncomputable def n13_62 : Code := cr n13_60
noncomputable def n13_63 : Code := cr n13_57
noncomputable def n13_64 : Code := cl n13_63
noncomputable def n13_65 : Code := cl n13_64
noncomputable def n13_66 : Code := cl n13_65
noncomputable def q13_66 : List Oper := opsOf n13_66
noncomputable def n13_67 : Code := cr n13_65
noncomputable def n13_68 : Code := cl n13_67
noncomputable def n13_69 : Code := cl n13_68
noncomputable def q13_69 : List Oper := opsOf n13_69
noncomputable def n13_70 : Code := cr n13_68
noncomputable def n13_71 : Code := cr n13_67
noncomputable def n13_72 : Code := cr n13_63
noncomputable def q13_72 : List Oper := opsOf n13_72
noncomputable def n13_73 : Code := cr n13_49
noncomputable def q13_73 : List Oper := opsOf n13_73
noncomputable def n13_74 : Code := cr n13_38
noncomputable def n13_75 : Code := cl n13_74
noncomputable def q13_75 : List Oper := opsOf n13_75
noncomputable def n13_76 : Code := cr n13_74
theorem body13 : Try.f13.body = some n13_0 := by kernel_rfl
theorem run13 (E : Ev) (args : List Value) (h : List Blk) (hl : args.length ≤ 199) : runB Try.prog E 13 args h = endS Try.prog [.tmp 6] h.length (codeB Try.prog E ⟨13, 199, h.length, none⟩ n13_0 ⟨enumT 0 args, h, []⟩) := GE.run_step Try.func13 body13 (by kernel_rfl) (by decide) (by kernel_rfl) hl
theorem n13_1s : codeB Try.prog E ⟨f, 199, b, ro⟩ n13_1 st = plainS (runOps Try.prog E b q13_1 (ops [false] Try.f13) st) := GE.region_step (id := 0) (GE.reg_of (by kernel_rfl)) (by kernel_rfl)
theorem n13_3s : codeB Try.prog E ⟨f, 199, b, ro⟩ n13_3 st = plainS (runOps Try.prog E b q13_3 (ops [true, false] Try.f13) st) := GE.region_step (id := 1) (GE.reg_of (by kernel_rfl)) (by kernel_rfl)
theorem n13_5s : codeB Try.prog E ⟨f, 199, b, ro⟩ n13_5 st = plainS (runOps Try.prog E b q13_5 (ops [true, true, false] Try.f13) st) := GE.region_step (id := 2) (GE.reg_of (by kernel_rfl)) (by kernel_rfl)
theorem n13_7s : codeB Try.prog E ⟨f, 199, b, ro⟩ n13_7 st = plainS (runOps Try.prog E b q13_7 (ops [true, true, true, false] Try.f13) st) := GE.region_step (id := 3) (GE.reg_of (by kernel_rfl)) (by kernel_rfl)
theorem n13_9s : codeB Try.prog E ⟨f, 199, b, ro⟩ n13_9 st = plainS (runOps Try.prog E b q13_9 (ops [true, true, true, true, false] Try.f13) st) := GE.region_step (id := 4) (GE.reg_of (by kernel_rfl)) (by kernel_rfl)
theorem n13_11s : codeB Try.prog E ⟨f, 199, b, ro⟩ n13_11 st = drawS [0, 1, 3, 0, 8, 31, 0, 64, 192, 0, 512, 1984, 63, 8191] (runOpsF Try.prog E b q13_11 (ops [true, true, true, true, true, false] Try.f13) st) := GE.draw_step (id := 5) (GE.reg_of (by kernel_rfl)) (by kernel_rfl) (by kernel_rfl) (by kernel_rfl)
theorem q13_13g3 : gd q13_13 3 = some 49 := by kernel_rfl
theorem n13_13s : codeB Try.prog E ⟨f, 199, b, ro⟩ n13_13 st = drawS [0, 0, 3, 7, 15, 15, 15, 111, 239, 511, 1023, 2047, 15, 15, 15, 24591, 57359, 126991, 258063, 520207, 1048575, 2097151, 4194303] (runOpsF Try.prog E b q13_13 (ops [true, true, true, true, true, true, false] Try.f13) st) := GE.draw_step (id := 6) (GE.reg_of (by kernel_rfl)) (by kernel_rfl) (by kernel_rfl) (by kernel_rfl)
theorem q13_16g8 : gd q13_16 8 = some 76 := by kernel_rfl
theorem q13_16g10 : gd q13_16 10 = some 78 := by kernel_rfl
theorem n13_16s : codeB Try.prog E ⟨f, 199, b, ro⟩ n13_16 st = plainS (runOps Try.prog E b q13_16 (ops [true, true, true, true, true, true, true, false, false] Try.f13) st) := GE.region_step (id := 7) (GE.reg_of (by kernel_rfl)) (by kernel_rfl)
theorem n13_19s : codeB Try.prog E ⟨f, 199, b, ro⟩ n13_19 st = plainS (runOps Try.prog E b q13_19 (ops [true, true, true, true, true, true, true, false, true, false, false] Try.f13) st) := GE.region_step (id := 8) (GE.reg_of (by kernel_rfl)) (by kernel_rfl)
theorem n13_20s : codeB Try.prog LL ⟨13, 199, b, ro⟩ n13_20 st = normS b ⟨[6], []⟩ .ret st := GE.ret_step (by kernel_rfl) (by kernel_rfl)
theorem n13_18s : codeB Try.prog E cx n13_18 st = thenS (codeB Try.prog E cx n13_19 st) (codeB Try.prog E cx n13_20) := GE.seq_step (by kernel_rfl)
theorem n13_21s : codeB Try.prog E cx n13_21 st = some (.normal, st) := GE.skip_step (by kernel_rfl)
theorem n13_17s : codeB Try.prog E cx n13_17 st = condS (codeB Try.prog E cx n13_18) (codeB Try.prog E cx n13_21) (lk st.σ 81) st := GE.cond_step (c := .tmp 81) (by kernel_rfl)
theorem n13_15s : codeB Try.prog E cx n13_15 st = thenS (codeB Try.prog E cx n13_16 st) (codeB Try.prog E cx n13_17) := GE.seq_step (by kernel_rfl)
theorem n13_24s : codeB Try.prog E ⟨f, 199, b, ro⟩ n13_24 st = plainS (runOps Try.prog E b q13_24 (ops [true, true, true, true, true, true, true, true, false, false] Try.f13) st) := GE.region_step (id := 9) (GE.reg_of (by kernel_rfl)) (by kernel_rfl)
theorem q13_27g2 : gd q13_27 2 = some 85 := by kernel_rfl
theorem q13_27g6 : gd q13_27 6 = some 89 := by kernel_rfl
theorem q13_27g10 : gd q13_27 10 = some 93 := by kernel_rfl
theorem q13_27g16 : gd q13_27 16 = some 99 := by kernel_rfl
theorem n13_27s : codeB Try.prog E ⟨f, 199, b, ro⟩ n13_27 st = plainS (runOps Try.prog E b q13_27 (ops [true, true, true, true, true, true, true, true, false, true, false, false] Try.f13) st) := GE.region_step (id := 10) (GE.reg_of (by kernel_rfl)) (by kernel_rfl)
theorem n13_28s : codeB Try.prog LL ⟨13, 199, b, ro⟩ n13_28 st = normS b ⟨[6], []⟩ .ret st := GE.ret_step (by kernel_rfl) (by kernel_rfl)
theorem n13_26s : codeB Try.prog E cx n13_26 st = thenS (codeB Try.prog E cx n13_27 st) (codeB Try.prog E cx n13_28) := GE.seq_step (by kernel_rfl)
theorem n13_29s : codeB Try.prog E cx n13_29 st = some (.normal, st) := GE.skip_step (by kernel_rfl)
theorem n13_25s : codeB Try.prog E cx n13_25 st = condS (codeB Try.prog E cx n13_26) (codeB Try.prog E cx n13_29) (lk st.σ 82) st := GE.cond_step (c := .tmp 82) (by kernel_rfl)
theorem n13_23s : codeB Try.prog E cx n13_23 st = thenS (codeB Try.prog E cx n13_24 st) (codeB Try.prog E cx n13_25) := GE.seq_step (by kernel_rfl)
theorem q13_32g2 : gd q13_32 2 = some 104 := by kernel_rfl
theorem q13_32g8 : gd q13_32 8 = some 110 := by kernel_rfl
theorem q13_32g12 : gd q13_32 12 = some 114 := by kernel_rfl
theorem q13_32g17 : gd q13_32 17 = some 119 := by kernel_rfl
theorem q13_32g23 : gd q13_32 23 = some 125 := by kernel_rfl
theorem q13_32g42 : gd q13_32 42 = some 144 := by kernel_rfl
theorem n13_32s : codeB Try.prog E ⟨f, 199, b, ro⟩ n13_32 st = drawS [0, 1, 3, 7, 7, 31, 63, 127, 255, 511, 1023, 2047, 4095, 8191, 8191, 32767, 65535, 131071, 262143, 262143, 786431, 2097151, 4194303, 8388607, 16777215, 16777215, 16777215, 117440511, 251658239, 536870911, 1073741823, 2147483647, 16777215, 16777215, 16777215, 25786580991, 60146319359, 133160763391, 270599716863, 545477623807, 1099511627775, 2199023255551, 4398046511103, 8796093022207, 8796093022207, 8796093022207, 8796093022207, 140737488355327, 281474976710655, 562949953421311] (runOpsF Try.prog E b q13_32 (ops [true, true, true, true, true, true, true, true, true, false, false] Try.f13) st) := GE.draw_step (id := 11) (GE.reg_of (by kernel_rfl)) (by kernel_rfl) (by kernel_rfl) (by kernel_rfl)
theorem n13_35s : codeB Try.prog E ⟨f, 199, b, ro⟩ n13_35 st = plainS (runOps Try.prog E b q13_35 (ops [true, true, true, true, true, true, true, true, true, false, true, false, false] Try.f13) st) := GE.region_step (id := 12) (GE.reg_of (by kernel_rfl)) (by kernel_rfl)
theorem n13_36s : codeB Try.prog LL ⟨13, 199, b, ro⟩ n13_36 st = normS b ⟨[6], []⟩ .ret st := GE.ret_step (by kernel_rfl) (by kernel_rfl)
theorem n13_34s : codeB Try.prog E cx n13_34 st = thenS (codeB Try.prog E cx n13_35 st) (codeB Try.prog E cx n13_36) := GE.seq_step (by kernel_rfl)
theorem n13_37s : codeB Try.prog E cx n13_37 st = some (.normal, st) := GE.skip_step (by kernel_rfl)
theorem n13_33s : codeB Try.prog E cx n13_33 st = condS (codeB Try.prog E cx n13_34) (codeB Try.prog E cx n13_37) (lk st.σ 151) st := GE.cond_step (c := .tmp 151) (by kernel_rfl)
theorem n13_31s : codeB Try.prog E cx n13_31 st = thenS (codeB Try.prog E cx n13_32 st) (codeB Try.prog E cx n13_33) := GE.seq_step (by kernel_rfl)
theorem n13_40s : codeB Try.prog E ⟨f, 199, b, ro⟩ n13_40 st = plainS (runOps Try.prog E b q13_40 (ops [true, true, true, true, true, true, true, true, true, true, false, false] Try.f13) st) := GE.region_step (id := 13) (GE.reg_of (by kernel_rfl)) (by kernel_rfl)
theorem n13_44s : codeB Try.prog E ⟨f, 199, b, ro⟩ n13_44 st = plainS (runOps Try.prog E b q13_44 (ops [true, true, true, true, true, true, true, true, true, true, false, true, false, false, false] Try.f13) st) := GE.region_step (id := 14) (GE.reg_of (by kernel_rfl)) (by kernel_rfl)
theorem n13_47s : codeB Try.prog E cx n13_47 st = some (.normal, st) := GE.skip_step (by kernel_rfl)
theorem n13_48s : codeB Try.prog LL ⟨13, 199, b, ro⟩ n13_48 st = normS b ⟨[], []⟩ (.exit 0) st := GE.exit_step (by kernel_rfl) (by kernel_rfl)
theorem n13_46s : codeB Try.prog E cx n13_46 st = condS (codeB Try.prog E cx n13_47) (codeB Try.prog E cx n13_48) (lk st.σ 155) st := GE.cond_step (c := .tmp 155) (by kernel_rfl)
theorem n13_52s : codeB Try.prog E ⟨f, 199, b, ro⟩ n13_52 st = plainS (runOps Try.prog E b q13_52 (ops [true, true, true, true, true, true, true, true, true, true, false, true, false, false, true, true, false, false, false] Try.f13) st) := GE.region_step (id := 15) (GE.reg_of (by kernel_rfl)) (by kernel_rfl)
theorem n13_54s : codeB Try.prog E ⟨f, 199, b, ro⟩ n13_54 st = plainS (runOps Try.prog E b q13_54 (ops [true, true, true, true, true, true, true, true, true, true, false, true, false, false, true, true, false, false, true, false] Try.f13) st) := GE.region_step (id := 16) (GE.reg_of (by kernel_rfl)) (by kernel_rfl)
theorem n13_59s : codeB Try.prog E ⟨f, 199, b, ro⟩ n13_59 st = plainS (runOps Try.prog E b q13_59 (ops [true, true, true, true, true, true, true, true, true, true, false, true, false, false, true, true, false, false, true, true, false, false, false, false] Try.f13) st) := GE.region_step (id := 17) (GE.reg_of (by kernel_rfl)) (by kernel_rfl)
theorem n13_61s : codeB Try.prog E cx n13_61 st = some (.normal, st) := GE.skip_step (by kernel_rfl)
theorem n13_62s : codeB Try.prog LL ⟨13, 199, b, ro⟩ n13_62 st = normS b ⟨[7, 8, 10, 11, 153, 154], [⟨7, 0, 2, true⟩, ⟨8, 0, 1, true⟩]⟩ (.exit 2) st := GE.exit_step (by kernel_rfl) (by kernel_rfl)
theorem n13_60s : codeB Try.prog E cx n13_60 st = condS (codeB Try.prog E cx n13_61) (codeB Try.prog E cx n13_62) (lk st.σ 162) st := GE.cond_step (c := .tmp 162) (by kernel_rfl)
theorem n13_58s : codeB Try.prog E cx n13_58 st = thenS (codeB Try.prog E cx n13_59 st) (codeB Try.prog E cx n13_60) := GE.seq_step (by kernel_rfl)
theorem q13_66g3 : gd q13_66 3 = some 168 := by kernel_rfl
theorem q13_66g7 : gd q13_66 7 = some 172 := by kernel_rfl
theorem q13_66g13 : gd q13_66 13 = some 178 := by kernel_rfl
theorem n13_66s : codeB Try.prog E ⟨f, 199, b, ro⟩ n13_66 st = drawS [0, 0, 3, 7, 15, 15, 63, 127, 255, 255, 1023, 2047, 4095, 8191, 16383, 16383, 16383, 114687, 245759, 524287, 1048575, 2097151, 16383, 16383, 16383, 25182207, 58736639, 130039807, 264257535, 532692991, 1073741823, 2147483647] (runOpsF Try.prog E b q13_66 (ops [true, true, true, true, true, true, true, true, true, true, false, true, false, false, true, true, false, false, true, true, false, false, true, false, false, false] Try.f13) st) := GE.draw_step (id := 19) (GE.reg_of (by kernel_rfl)) (by kernel_rfl) (by kernel_rfl) (by kernel_rfl)
theorem n13_69s : codeB Try.prog E ⟨f, 199, b, ro⟩ n13_69 st = plainS (runOps Try.prog E b q13_69 (ops [true, true, true, true, true, true, true, true, true, true, false, true, false, false, true, true, false, false, true, true, false, false, true, false, false, true, false, false] Try.f13) st) := GE.region_step (id := 20) (GE.reg_of (by kernel_rfl)) (by kernel_rfl)
theorem n13_70s : codeB Try.prog LL ⟨13, 199, b, ro⟩ n13_70 st = normS b ⟨[6], []⟩ .ret st := GE.ret_step (by kernel_rfl) (by kernel_rfl)
theorem n13_68s : codeB Try.prog E cx n13_68 st = thenS (codeB Try.prog E cx n13_69 st) (codeB Try.prog E cx n13_70) := GE.seq_step (by kernel_rfl)
theorem n13_71s : codeB Try.prog E cx n13_71 st = some (.normal, st) := GE.skip_step (by kernel_rfl)
theorem n13_67s : codeB Try.prog E cx n13_67 st = condS (codeB Try.prog E cx n13_68) (codeB Try.prog E cx n13_71) (lk st.σ 196) st := GE.cond_step (c := .tmp 196) (by kernel_rfl)
theorem n13_65s : codeB Try.prog E cx n13_65 st = thenS (codeB Try.prog E cx n13_66 st) (codeB Try.prog E cx n13_67) := GE.seq_step (by kernel_rfl)
theorem n13_64s : codeB Try.prog E cx n13_64 st = blockS 3 (codeB Try.prog E cx n13_65 st) st := GE.block_step (by kernel_rfl)
theorem n13_72s : codeB Try.prog E ⟨f, 199, b, ro⟩ n13_72 st = plainS (runOps Try.prog E b q13_72 (ops [true, true, true, true, true, true, true, true, true, true, false, true, false, false, true, true, false, false, true, true, false, false, true, true] Try.f13) st) := GE.region_step (id := 18) (GE.reg_of (by kernel_rfl)) (by kernel_rfl)
theorem n13_63s : codeB Try.prog E cx n13_63 st = thenS (codeB Try.prog E cx n13_64 st) (codeB Try.prog E cx n13_72) := GE.seq_step (by kernel_rfl)
theorem n13_57s : codeB Try.prog E cx n13_57 st = thenS (codeB Try.prog E cx n13_58 st) (codeB Try.prog E cx n13_63) := GE.seq_step (by kernel_rfl)
theorem n13_56k : LL.kp (⟨13, 199, b, ro⟩ : Cx).fn (4 * rid n13_57 + 3) = some ⟨[16, 17, 7, 8, 10, 11, 153, 154], [⟨7, 0, 2, true⟩, ⟨8, 0, 1, true⟩]⟩ := by kernel_rfl
theorem n13_56s : codeB Try.prog LL ⟨13, 199, b, ro⟩ n13_56 st = headS b ⟨[16, 17, 7, 8, 10, 11, 153, 154], [⟨7, 0, 2, true⟩, ⟨8, 0, 1, true⟩]⟩ st (lpB Try.prog LL ⟨13, 199, b, ro⟩ n13_56 n13_57) := GE.lpB_step (by kernel_rfl) (n13_56k b ro)
theorem n13_56g : LL.code ⟨13, 199, b, ro⟩ n13_56 st = headS b ⟨[16, 17, 7, 8, 10, 11, 153, 154], [⟨7, 0, 2, true⟩, ⟨8, 0, 1, true⟩]⟩ st (lpB Try.prog LL ⟨13, 199, b, ro⟩ n13_56 n13_57) := GE.lpB_again (by kernel_rfl) (n13_56k b ro)
theorem n13_55s : codeB Try.prog E cx n13_55 st = blockS 2 (codeB Try.prog E cx n13_56 st) st := GE.block_step (by kernel_rfl)
theorem n13_53s : codeB Try.prog E cx n13_53 st = thenS (codeB Try.prog E cx n13_54 st) (codeB Try.prog E cx n13_55) := GE.seq_step (by kernel_rfl)
theorem n13_51s : codeB Try.prog E cx n13_51 st = thenS (codeB Try.prog E cx n13_52 st) (codeB Try.prog E cx n13_53) := GE.seq_step (by kernel_rfl)
theorem n13_50s : codeB Try.prog E cx n13_50 st = blockS 1 (codeB Try.prog E cx n13_51 st) st := GE.block_step (by kernel_rfl)
theorem n13_73s : codeB Try.prog E ⟨f, 199, b, ro⟩ n13_73 st = plainS (runOps Try.prog E b q13_73 (ops [true, true, true, true, true, true, true, true, true, true, false, true, false, false, true, true, true] Try.f13) st) := GE.region_step (id := 21) (GE.reg_of (by kernel_rfl)) (by kernel_rfl)
theorem n13_49s : codeB Try.prog E cx n13_49 st = thenS (codeB Try.prog E cx n13_50 st) (codeB Try.prog E cx n13_73) := GE.seq_step (by kernel_rfl)
theorem n13_45s : codeB Try.prog E cx n13_45 st = thenS (codeB Try.prog E cx n13_46 st) (codeB Try.prog E cx n13_49) := GE.seq_step (by kernel_rfl)
theorem n13_43s : codeB Try.prog E cx n13_43 st = thenS (codeB Try.prog E cx n13_44 st) (codeB Try.prog E cx n13_45) := GE.seq_step (by kernel_rfl)
theorem n13_42k : LL.kp (⟨13, 199, b, ro⟩ : Cx).fn (4 * rid n13_43 + 3) = some ⟨[7, 8, 10, 11, 153, 154], [⟨7, 0, 2, true⟩, ⟨8, 0, 1, true⟩]⟩ := by kernel_rfl
theorem n13_42s : codeB Try.prog LL ⟨13, 199, b, ro⟩ n13_42 st = headS b ⟨[7, 8, 10, 11, 153, 154], [⟨7, 0, 2, true⟩, ⟨8, 0, 1, true⟩]⟩ st (lpB Try.prog LL ⟨13, 199, b, ro⟩ n13_42 n13_43) := GE.lpB_step (by kernel_rfl) (n13_42k b ro)
theorem n13_42g : LL.code ⟨13, 199, b, ro⟩ n13_42 st = headS b ⟨[7, 8, 10, 11, 153, 154], [⟨7, 0, 2, true⟩, ⟨8, 0, 1, true⟩]⟩ st (lpB Try.prog LL ⟨13, 199, b, ro⟩ n13_42 n13_43) := GE.lpB_again (by kernel_rfl) (n13_42k b ro)
theorem n13_41s : codeB Try.prog E cx n13_41 st = blockS 0 (codeB Try.prog E cx n13_42 st) st := GE.block_step (by kernel_rfl)
theorem n13_39s : codeB Try.prog E cx n13_39 st = thenS (codeB Try.prog E cx n13_40 st) (codeB Try.prog E cx n13_41) := GE.seq_step (by kernel_rfl)
theorem n13_75s : codeB Try.prog E ⟨f, 199, b, ro⟩ n13_75 st = plainS (runOps Try.prog E b q13_75 (ops [true, true, true, true, true, true, true, true, true, true, true, false] Try.f13) st) := GE.region_step (id := 22) (GE.reg_of (by kernel_rfl)) (by kernel_rfl)
theorem n13_76s : codeB Try.prog LL ⟨13, 199, b, ro⟩ n13_76 st = normS b ⟨[6], []⟩ .ret st := GE.ret_step (by kernel_rfl) (by kernel_rfl)
theorem n13_74s : codeB Try.prog E cx n13_74 st = thenS (codeB Try.prog E cx n13_75 st) (codeB Try.prog E cx n13_76) := GE.seq_step (by kernel_rfl)
theorem n13_38s : codeB Try.prog E cx n13_38 st = thenS (codeB Try.prog E cx n13_39 st) (codeB Try.prog E cx n13_74) := GE.seq_step (by kernel_rfl)
theorem n13_30s : codeB Try.prog E cx n13_30 st = thenS (codeB Try.prog E cx n13_31 st) (codeB Try.prog E cx n13_38) := GE.seq_step (by kernel_rfl)
theorem n13_22s : codeB Try.prog E cx n13_22 st = thenS (codeB Try.prog E cx n13_23 st) (codeB Try.prog E cx n13_30) := GE.seq_step (by kernel_rfl)
theorem n13_14s : codeB Try.prog E cx n13_14 st = thenS (codeB Try.prog E cx n13_15 st) (codeB Try.prog E cx n13_22) := GE.seq_step (by kernel_rfl)
theorem n13_12s : codeB Try.prog E cx n13_12 st = thenS (codeB Try.prog E cx n13_13 st) (codeB Try.prog E cx n13_14) := GE.seq_step (by kernel_rfl)
theorem n13_10s : codeB Try.prog E cx n13_10 st = thenS (codeB Try.prog E cx n13_11 st) (codeB Try.prog E cx n13_12) := GE.seq_step (by kernel_rfl)
theorem n13_8s : codeB Try.prog E cx n13_8 st = thenS (codeB Try.prog E cx n13_9 st) (codeB Try.prog E cx n13_10) := GE.seq_step (by kernel_rfl)
theorem n13_6s : codeB Try.prog E cx n13_6 st = thenS (codeB Try.prog E cx n13_7 st) (codeB Try.prog E cx n13_8) := GE.seq_step (by kernel_rfl)
theorem n13_4s : codeB Try.prog E cx n13_4 st = thenS (codeB Try.prog E cx n13_5 st) (codeB Try.prog E cx n13_6) := GE.seq_step (by kernel_rfl)
theorem n13_2s : codeB Try.prog E cx n13_2 st = thenS (codeB Try.prog E cx n13_3 st) (codeB Try.prog E cx n13_4) := GE.seq_step (by kernel_rfl)
theorem n13_0s : codeB Try.prog E cx n13_0 st = thenS (codeB Try.prog E cx n13_1 st) (codeB Try.prog E cx n13_2) := GE.seq_step (by kernel_rfl)
noncomputable def n35_0 : Code := bodyOf Try.f35
noncomputable def n35_1 : Code := cl n35_0
noncomputable def q35_1 : List Oper := opsOf n35_1
noncomputable def n35_2 : Code := cr n35_0
noncomputable def n35_3 : Code := cl n35_2
noncomputable def q35_3 : List Oper := opsOf n35_3
noncomputable def n35_4 : Code := cr n35_2
noncomputable def n35_5 : Code := cl n35_4
noncomputable def n35_6 : Code := cl n35_5
noncomputable def q35_6 : List Oper := opsOf n35_6
noncomputable def n35_7 : Code := cr n35_5
noncomputable def n35_8 : Code := cl n35_7
noncomputable def n35_9 : Code := cl n35_8
noncomputable def n35_10 : Code := cl n35_9
noncomputable def n35_11 : Code := cl n35_10
noncomputable def q35_11 : List Oper := opsOf n35_11
noncomputable def n35_12 : Code := cr n35_10
noncomputable def n35_13 : Code := cl n35_12
noncomputable def n35_14 : Code := cr n35_12
noncomputable def n35_15 : Code := cr n35_9
noncomputable def n35_16 : Code := cl n35_15
noncomputable def n35_17 : Code := cl n35_16
noncomputable def n35_18 : Code := cl n35_17
noncomputable def q35_18 : List Oper := opsOf n35_18
noncomputable def n35_19 : Code := cr n35_17
noncomputable def q35_19 : List Oper := opsOf n35_19
noncomputable def n35_20 : Code := cr n35_15
noncomputable def q35_20 : List Oper := opsOf n35_20
noncomputable def n35_21 : Code := cr n35_4
noncomputable def n35_22 : Code := cl n35_21
noncomputable def n35_23 : Code := cl n35_22
noncomputable def q35_23 : List Oper := opsOf n35_23
noncomputable def n35_24 : Code := cr n35_22
noncomputable def n35_25 : Code := cl n35_24
noncomputable def q35_25 : List Oper := opsOf n35_25
noncomputable def n35_26 : Code := cr n35_24
noncomputable def n35_27 : Code := cr n35_21
noncomputable def n35_28 : Code := cl n35_27
noncomputable def q35_28 : List Oper := opsOf n35_28
noncomputable def n35_29 : Code := cr n35_27
theorem body35 : Try.f35.body = some n35_0 := by kernel_rfl
theorem run35 (E : Ev) (args : List Value) (h : List Blk) (hl : args.length ≤ 43) : runB Try.prog E 35 args h = endS Try.prog [.tmp 2] h.length (codeB Try.prog E ⟨35, 43, h.length, none⟩ n35_0 ⟨enumT 0 args, h, []⟩) := GE.run_step Try.func35 body35 (by kernel_rfl) (by decide) (by kernel_rfl) hl
theorem n35_1s : codeB Try.prog E ⟨f, 43, b, ro⟩ n35_1 st = plainS (runOps Try.prog E b q35_1 (ops [false] Try.f35) st) := GE.region_step (id := 0) (GE.reg_of (by kernel_rfl)) (by kernel_rfl)
theorem n35_3s : codeB Try.prog E ⟨f, 43, b, ro⟩ n35_3 st = plainS (runOps Try.prog E b q35_3 (ops [true, false] Try.f35) st) := GE.region_step (id := 1) (GE.reg_of (by kernel_rfl)) (by kernel_rfl)
theorem n35_6s : codeB Try.prog E ⟨f, 43, b, ro⟩ n35_6 st = plainS (runOps Try.prog E b q35_6 (ops [true, true, false, false] Try.f35) st) := GE.region_step (id := 2) (GE.reg_of (by kernel_rfl)) (by kernel_rfl)
theorem q35_11g4 : gd q35_11 4 = some 10 := by kernel_rfl
theorem n35_11s : codeB Try.prog E ⟨f, 43, b, ro⟩ n35_11 st = plainS (runOps Try.prog E b q35_11 (ops [true, true, false, true, false, false, false, false] Try.f35) st) := GE.region_step (id := 3) (GE.reg_of (by kernel_rfl)) (by kernel_rfl)
theorem n35_13s : codeB Try.prog E cx n35_13 st = some (.normal, st) := GE.skip_step (by kernel_rfl)
theorem n35_14s : codeB Try.prog LL ⟨35, 43, b, ro⟩ n35_14 st = normS b ⟨[3], [⟨3, 0, 2, true⟩]⟩ (.exit 0) st := GE.exit_step (by kernel_rfl) (by kernel_rfl)
theorem n35_12s : codeB Try.prog E cx n35_12 st = condS (codeB Try.prog E cx n35_13) (codeB Try.prog E cx n35_14) (lk st.σ 13) st := GE.cond_step (c := .tmp 13) (by kernel_rfl)
theorem n35_10s : codeB Try.prog E cx n35_10 st = thenS (codeB Try.prog E cx n35_11 st) (codeB Try.prog E cx n35_12) := GE.seq_step (by kernel_rfl)
theorem n35_18s : codeB Try.prog E ⟨f, 43, b, ro⟩ n35_18 st = plainS (runOps Try.prog E b q35_18 (ops [true, true, false, true, false, false, true, false, false, false] Try.f35) st) := GE.region_step (id := 5) (GE.reg_of (by kernel_rfl)) (by kernel_rfl)
theorem n35_19s : codeB Try.prog E ⟨f, 43, b, ro⟩ n35_19 st = plainS (runOps Try.prog E b q35_19 (ops [true, true, false, true, false, false, true, false, false, true] Try.f35) st) := GE.region_step (id := 6) (GE.reg_of (by kernel_rfl)) (by kernel_rfl)
theorem n35_17s : codeB Try.prog E cx n35_17 st = thenS (codeB Try.prog E cx n35_18 st) (codeB Try.prog E cx n35_19) := GE.seq_step (by kernel_rfl)
theorem n35_16s : codeB Try.prog E cx n35_16 st = blockS 1 (codeB Try.prog E cx n35_17 st) st := GE.block_step (by kernel_rfl)
theorem n35_20s : codeB Try.prog E ⟨f, 43, b, ro⟩ n35_20 st = plainS (runOps Try.prog E b q35_20 (ops [true, true, false, true, false, false, true, true] Try.f35) st) := GE.region_step (id := 4) (GE.reg_of (by kernel_rfl)) (by kernel_rfl)
theorem n35_15s : codeB Try.prog E cx n35_15 st = thenS (codeB Try.prog E cx n35_16 st) (codeB Try.prog E cx n35_20) := GE.seq_step (by kernel_rfl)
theorem n35_9s : codeB Try.prog E cx n35_9 st = thenS (codeB Try.prog E cx n35_10 st) (codeB Try.prog E cx n35_15) := GE.seq_step (by kernel_rfl)
theorem n35_8k : LL.kp (⟨35, 43, b, ro⟩ : Cx).fn (4 * rid n35_9 + 3) = some ⟨[0, 3, 4], [⟨0, 0, 2, true⟩, ⟨3, 0, 2, true⟩]⟩ := by kernel_rfl
theorem n35_8s : codeB Try.prog LL ⟨35, 43, b, ro⟩ n35_8 st = headS b ⟨[0, 3, 4], [⟨0, 0, 2, true⟩, ⟨3, 0, 2, true⟩]⟩ st (lpB Try.prog LL ⟨35, 43, b, ro⟩ n35_8 n35_9) := GE.lpB_step (by kernel_rfl) (n35_8k b ro)
theorem n35_8g : LL.code ⟨35, 43, b, ro⟩ n35_8 st = headS b ⟨[0, 3, 4], [⟨0, 0, 2, true⟩, ⟨3, 0, 2, true⟩]⟩ st (lpB Try.prog LL ⟨35, 43, b, ro⟩ n35_8 n35_9) := GE.lpB_again (by kernel_rfl) (n35_8k b ro)
theorem n35_7s : codeB Try.prog E cx n35_7 st = blockS 0 (codeB Try.prog E cx n35_8 st) st := GE.block_step (by kernel_rfl)
theorem n35_5s : codeB Try.prog E cx n35_5 st = thenS (codeB Try.prog E cx n35_6 st) (codeB Try.prog E cx n35_7) := GE.seq_step (by kernel_rfl)
theorem n35_23s : codeB Try.prog E ⟨f, 43, b, ro⟩ n35_23 st = plainS (runOps Try.prog E b q35_23 (ops [true, true, true, false, false] Try.f35) st) := GE.region_step (id := 7) (GE.reg_of (by kernel_rfl)) (by kernel_rfl)
theorem n35_25s : codeB Try.prog E ⟨f, 43, b, ro⟩ n35_25 st = plainS (runOps Try.prog E b q35_25 (ops [true, true, true, false, true, false] Try.f35) st) := GE.region_step (id := 8) (GE.reg_of (by kernel_rfl)) (by kernel_rfl)
theorem n35_26s : codeB Try.prog E cx n35_26 st = some (.normal, st) := GE.skip_step (by kernel_rfl)
theorem n35_24s : codeB Try.prog E cx n35_24 st = condS (codeB Try.prog E cx n35_25) (codeB Try.prog E cx n35_26) (lk st.σ 39) st := GE.cond_step (c := .tmp 39) (by kernel_rfl)
theorem n35_22s : codeB Try.prog E cx n35_22 st = thenS (codeB Try.prog E cx n35_23 st) (codeB Try.prog E cx n35_24) := GE.seq_step (by kernel_rfl)
theorem n35_28s : codeB Try.prog E ⟨f, 43, b, ro⟩ n35_28 st = plainS (runOps Try.prog E b q35_28 (ops [true, true, true, true, false] Try.f35) st) := GE.region_step (id := 9) (GE.reg_of (by kernel_rfl)) (by kernel_rfl)
theorem n35_29s : codeB Try.prog LL ⟨35, 43, b, ro⟩ n35_29 st = normS b ⟨[2], [⟨2, 0, 2, true⟩]⟩ .ret st := GE.ret_step (by kernel_rfl) (by kernel_rfl)
theorem n35_27s : codeB Try.prog E cx n35_27 st = thenS (codeB Try.prog E cx n35_28 st) (codeB Try.prog E cx n35_29) := GE.seq_step (by kernel_rfl)
theorem n35_21s : codeB Try.prog E cx n35_21 st = thenS (codeB Try.prog E cx n35_22 st) (codeB Try.prog E cx n35_27) := GE.seq_step (by kernel_rfl)
theorem n35_4s : codeB Try.prog E cx n35_4 st = thenS (codeB Try.prog E cx n35_5 st) (codeB Try.prog E cx n35_21) := GE.seq_step (by kernel_rfl)
theorem n35_2s : codeB Try.prog E cx n35_2 st = thenS (codeB Try.prog E cx n35_3 st) (codeB Try.prog E cx n35_4) := GE.seq_step (by kernel_rfl)
theorem n35_0s : codeB Try.prog E cx n35_0 st = thenS (codeB Try.prog E cx n35_1 st) (codeB Try.prog E cx n35_2) := GE.seq_step (by kernel_rfl)
noncomputable def n37_0 : Code := bodyOf Try.f37
noncomputable def n37_1 : Code := cl n37_0
noncomputable def q37_1 : List Oper := opsOf n37_1
noncomputable def n37_2 : Code := cr n37_0
noncomputable def n37_3 : Code := cl n37_2
noncomputable def n37_4 : Code := cl n37_3
noncomputable def q37_4 : List Oper := opsOf n37_4
noncomputable def n37_5 : Code := cr n37_3
noncomputable def n37_6 : Code := cl n37_5
noncomputable def q37_6 : List Oper := opsOf n37_6
noncomputable def n37_7 : Code := cr n37_5
noncomputable def n37_8 : Code := cl n37_7
noncomputable def n37_9 : Code := cl n37_8
noncomputable def q37_9 : List Oper := opsOf n37_9
noncomputable def n37_10 : Code := cr n37_8
noncomputable def n37_11 : Code := cr n37_7
noncomputable def n37_12 : Code := cr n37_2
noncomputable def n37_13 : Code := cl n37_12
noncomputable def n37_14 : Code := cl n37_13
noncomputable def q37_14 : List Oper := opsOf n37_14
noncomputable def n37_15 : Code := cr n37_13
noncomputable def n37_16 : Code := cl n37_15
noncomputable def q37_16 : List Oper := opsOf n37_16
noncomputable def n37_17 : Code := cr n37_15
noncomputable def n37_18 : Code := cl n37_17
noncomputable def n37_19 : Code := cl n37_18
noncomputable def q37_19 : List Oper := opsOf n37_19
noncomputable def n37_20 : Code := cr n37_18
noncomputable def n37_21 : Code := cr n37_17
noncomputable def n37_22 : Code := cr n37_12
noncomputable def n37_23 : Code := cl n37_22
noncomputable def q37_23 : List Oper := opsOf n37_23
noncomputable def n37_24 : Code := cr n37_22
theorem body37 : Try.f37.body = some n37_0 := by kernel_rfl
theorem run37 (E : Ev) (args : List Value) (h : List Blk) (hl : args.length ≤ 23) : runB Try.prog E 37 args h = endS Try.prog [.tmp 4] h.length (codeB Try.prog E ⟨37, 23, h.length, none⟩ n37_0 ⟨enumT 0 args, h, []⟩) := GE.run_step Try.func37 body37 (by kernel_rfl) (by decide) (by kernel_rfl) hl
theorem n37_1s : codeB Try.prog E ⟨f, 23, b, ro⟩ n37_1 st = plainS (runOps Try.prog E b q37_1 (ops [false] Try.f37) st) := GE.region_step (id := 0) (GE.reg_of (by kernel_rfl)) (by kernel_rfl)
theorem n37_4s : codeB Try.prog E ⟨f, 23, b, ro⟩ n37_4 st = plainS (runOps Try.prog E b q37_4 (ops [true, false, false] Try.f37) st) := GE.region_step (id := 1) (GE.reg_of (by kernel_rfl)) (by kernel_rfl)
theorem n37_6s : codeB Try.prog E ⟨f, 23, b, ro⟩ n37_6 st = plainS (runOps Try.prog E b q37_6 (ops [true, false, true, false] Try.f37) st) := GE.region_step (id := 2) (GE.reg_of (by kernel_rfl)) (by kernel_rfl)
theorem n37_9s : codeB Try.prog E ⟨f, 23, b, ro⟩ n37_9 st = plainS (runOps Try.prog E b q37_9 (ops [true, false, true, true, false, false] Try.f37) st) := GE.region_step (id := 3) (GE.reg_of (by kernel_rfl)) (by kernel_rfl)
theorem n37_10s : codeB Try.prog LL ⟨37, 23, b, ro⟩ n37_10 st = normS b ⟨[4], []⟩ .ret st := GE.ret_step (by kernel_rfl) (by kernel_rfl)
theorem n37_8s : codeB Try.prog E cx n37_8 st = thenS (codeB Try.prog E cx n37_9 st) (codeB Try.prog E cx n37_10) := GE.seq_step (by kernel_rfl)
theorem n37_11s : codeB Try.prog E cx n37_11 st = some (.normal, st) := GE.skip_step (by kernel_rfl)
theorem n37_7s : codeB Try.prog E cx n37_7 st = condS (codeB Try.prog E cx n37_8) (codeB Try.prog E cx n37_11) (lk st.σ 13) st := GE.cond_step (c := .tmp 13) (by kernel_rfl)
theorem n37_5s : codeB Try.prog E cx n37_5 st = thenS (codeB Try.prog E cx n37_6 st) (codeB Try.prog E cx n37_7) := GE.seq_step (by kernel_rfl)
theorem n37_3s : codeB Try.prog E cx n37_3 st = thenS (codeB Try.prog E cx n37_4 st) (codeB Try.prog E cx n37_5) := GE.seq_step (by kernel_rfl)
theorem n37_14s : codeB Try.prog E ⟨f, 23, b, ro⟩ n37_14 st = plainS (runOps Try.prog E b q37_14 (ops [true, true, false, false] Try.f37) st) := GE.region_step (id := 4) (GE.reg_of (by kernel_rfl)) (by kernel_rfl)
theorem n37_16s : codeB Try.prog E ⟨f, 23, b, ro⟩ n37_16 st = plainS (runOps Try.prog E b q37_16 (ops [true, true, false, true, false] Try.f37) st) := GE.region_step (id := 5) (GE.reg_of (by kernel_rfl)) (by kernel_rfl)
theorem n37_19s : codeB Try.prog E ⟨f, 23, b, ro⟩ n37_19 st = plainS (runOps Try.prog E b q37_19 (ops [true, true, false, true, true, false, false] Try.f37) st) := GE.region_step (id := 6) (GE.reg_of (by kernel_rfl)) (by kernel_rfl)
theorem n37_20s : codeB Try.prog LL ⟨37, 23, b, ro⟩ n37_20 st = normS b ⟨[4], []⟩ .ret st := GE.ret_step (by kernel_rfl) (by kernel_rfl)
theorem n37_18s : codeB Try.prog E cx n37_18 st = thenS (codeB Try.prog E cx n37_19 st) (codeB Try.prog E cx n37_20) := GE.seq_step (by kernel_rfl)
theorem n37_21s : codeB Try.prog E cx n37_21 st = some (.normal, st) := GE.skip_step (by kernel_rfl)
theorem n37_17s : codeB Try.prog E cx n37_17 st = condS (codeB Try.prog E cx n37_18) (codeB Try.prog E cx n37_21) (lk st.σ 22) st := GE.cond_step (c := .tmp 22) (by kernel_rfl)
theorem n37_15s : codeB Try.prog E cx n37_15 st = thenS (codeB Try.prog E cx n37_16 st) (codeB Try.prog E cx n37_17) := GE.seq_step (by kernel_rfl)
theorem n37_13s : codeB Try.prog E cx n37_13 st = thenS (codeB Try.prog E cx n37_14 st) (codeB Try.prog E cx n37_15) := GE.seq_step (by kernel_rfl)
theorem n37_23s : codeB Try.prog E ⟨f, 23, b, ro⟩ n37_23 st = plainS (runOps Try.prog E b q37_23 (ops [true, true, true, false] Try.f37) st) := GE.region_step (id := 7) (GE.reg_of (by kernel_rfl)) (by kernel_rfl)
theorem n37_24s : codeB Try.prog LL ⟨37, 23, b, ro⟩ n37_24 st = normS b ⟨[4], []⟩ .ret st := GE.ret_step (by kernel_rfl) (by kernel_rfl)
theorem n37_22s : codeB Try.prog E cx n37_22 st = thenS (codeB Try.prog E cx n37_23 st) (codeB Try.prog E cx n37_24) := GE.seq_step (by kernel_rfl)
theorem n37_12s : codeB Try.prog E cx n37_12 st = thenS (codeB Try.prog E cx n37_13 st) (codeB Try.prog E cx n37_22) := GE.seq_step (by kernel_rfl)
theorem n37_2s : codeB Try.prog E cx n37_2 st = thenS (codeB Try.prog E cx n37_3 st) (codeB Try.prog E cx n37_12) := GE.seq_step (by kernel_rfl)
theorem n37_0s : codeB Try.prog E cx n37_0 st = thenS (codeB Try.prog E cx n37_1 st) (codeB Try.prog E cx n37_2) := GE.seq_step (by kernel_rfl)
noncomputable def n40_0 : Code := bodyOf Try.f40
noncomputable def n40_1 : Code := cl n40_0
noncomputable def q40_1 : List Oper := opsOf n40_1
noncomputable def n40_2 : Code := cr n40_0
noncomputable def n40_3 : Code := cl n40_2
noncomputable def q40_3 : List Oper := opsOf n40_3
noncomputable def n40_4 : Code := cr n40_2
noncomputable def n40_5 : Code := cl n40_4
noncomputable def n40_6 : Code := cl n40_5
noncomputable def q40_6 : List Oper := opsOf n40_6
noncomputable def n40_7 : Code := cr n40_5
noncomputable def n40_8 : Code := cl n40_7
noncomputable def n40_9 : Code := cl n40_8
noncomputable def n40_10 : Code := cl n40_9
noncomputable def n40_11 : Code := cl n40_10
noncomputable def q40_11 : List Oper := opsOf n40_11
noncomputable def n40_12 : Code := cr n40_10
noncomputable def n40_13 : Code := cl n40_12
noncomputable def n40_14 : Code := cr n40_12
noncomputable def n40_15 : Code := cr n40_9
noncomputable def n40_16 : Code := cl n40_15
noncomputable def n40_17 : Code := cl n40_16
noncomputable def q40_17 : List Oper := opsOf n40_17
noncomputable def n40_18 : Code := cr n40_15
noncomputable def q40_18 : List Oper := opsOf n40_18
noncomputable def n40_19 : Code := cr n40_4
noncomputable def n40_20 : Code := cl n40_19
noncomputable def n40_21 : Code := cl n40_20
noncomputable def q40_21 : List Oper := opsOf n40_21
noncomputable def n40_22 : Code := cr n40_20
noncomputable def n40_23 : Code := cl n40_22
noncomputable def n40_24 : Code := cl n40_23
noncomputable def n40_25 : Code := cl n40_24
noncomputable def n40_26 : Code := cl n40_25
noncomputable def q40_26 : List Oper := opsOf n40_26
noncomputable def n40_27 : Code := cr n40_25
noncomputable def n40_28 : Code := cl n40_27
noncomputable def n40_29 : Code := cr n40_27
noncomputable def n40_30 : Code := cr n40_24
noncomputable def n40_31 : Code := cl n40_30
noncomputable def n40_32 : Code := cl n40_31
noncomputable def n40_33 : Code := cl n40_32
noncomputable def q40_33 : List Oper := opsOf n40_33
noncomputable def n40_34 : Code := cr n40_32
noncomputable def n40_35 : Code := cl n40_34
noncomputable def n40_36 : Code := cl n40_35
noncomputable def q40_36 : List Oper := opsOf n40_36
noncomputable def n40_37 : Code := cr n40_35
noncomputable def n40_38 : Code := cl n40_37
noncomputable def q40_38 : List Oper := opsOf n40_38
noncomputable def n40_39 : Code := cr n40_37
noncomputable def n40_40 : Code := cr n40_34
noncomputable def n40_41 : Code := cl n40_40
noncomputable def q40_41 : List Oper := opsOf n40_41
noncomputable def n40_42 : Code := cr n40_40
noncomputable def q40_42 : List Oper := opsOf n40_42
noncomputable def n40_43 : Code := cr n40_30
noncomputable def q40_43 : List Oper := opsOf n40_43
noncomputable def n40_44 : Code := cr n40_19
noncomputable def n40_45 : Code := cl n40_44
noncomputable def q40_45 : List Oper := opsOf n40_45
noncomputable def n40_46 : Code := cr n40_44
theorem body40 : Try.f40.body = some n40_0 := by kernel_rfl
theorem run40 (E : Ev) (args : List Value) (h : List Blk) (hl : args.length ≤ 54) : runB Try.prog E 40 args h = endS Try.prog [.tmp 4] h.length (codeB Try.prog E ⟨40, 54, h.length, none⟩ n40_0 ⟨enumT 0 args, h, []⟩) := GE.run_step Try.func40 body40 (by kernel_rfl) (by decide) (by kernel_rfl) hl
theorem n40_1s : codeB Try.prog E ⟨f, 54, b, ro⟩ n40_1 st = plainS (runOps Try.prog E b q40_1 (ops [false] Try.f40) st) := GE.region_step (id := 0) (GE.reg_of (by kernel_rfl)) (by kernel_rfl)
theorem n40_3s : codeB Try.prog E ⟨f, 54, b, ro⟩ n40_3 st = plainS (runOps Try.prog E b q40_3 (ops [true, false] Try.f40) st) := GE.region_step (id := 1) (GE.reg_of (by kernel_rfl)) (by kernel_rfl)
theorem n40_6s : codeB Try.prog E ⟨f, 54, b, ro⟩ n40_6 st = plainS (runOps Try.prog E b q40_6 (ops [true, true, false, false] Try.f40) st) := GE.region_step (id := 2) (GE.reg_of (by kernel_rfl)) (by kernel_rfl)
theorem n40_11s : codeB Try.prog E ⟨f, 54, b, ro⟩ n40_11 st = plainS (runOps Try.prog E b q40_11 (ops [true, true, false, true, false, false, false, false] Try.f40) st) := GE.region_step (id := 3) (GE.reg_of (by kernel_rfl)) (by kernel_rfl)
theorem n40_13s : codeB Try.prog E cx n40_13 st = some (.normal, st) := GE.skip_step (by kernel_rfl)
theorem n40_14s : codeB Try.prog LL ⟨40, 54, b, ro⟩ n40_14 st = normS b ⟨[1, 5, 6], [⟨1, 0, 1, true⟩, ⟨5, 0, 1, true⟩, ⟨6, 0, 1, true⟩]⟩ (.exit 0) st := GE.exit_step (by kernel_rfl) (by kernel_rfl)
theorem n40_12s : codeB Try.prog E cx n40_12 st = condS (codeB Try.prog E cx n40_13) (codeB Try.prog E cx n40_14) (lk st.σ 12) st := GE.cond_step (c := .tmp 12) (by kernel_rfl)
theorem n40_10s : codeB Try.prog E cx n40_10 st = thenS (codeB Try.prog E cx n40_11 st) (codeB Try.prog E cx n40_12) := GE.seq_step (by kernel_rfl)
theorem n40_17s : codeB Try.prog E ⟨f, 54, b, ro⟩ n40_17 st = plainS (runOps Try.prog E b q40_17 (ops [true, true, false, true, false, false, true, false, false] Try.f40) st) := GE.region_step (id := 5) (GE.reg_of (by kernel_rfl)) (by kernel_rfl)
theorem n40_16s : codeB Try.prog E cx n40_16 st = blockS 1 (codeB Try.prog E cx n40_17 st) st := GE.block_step (by kernel_rfl)
theorem n40_18s : codeB Try.prog E ⟨f, 54, b, ro⟩ n40_18 st = plainS (runOps Try.prog E b q40_18 (ops [true, true, false, true, false, false, true, true] Try.f40) st) := GE.region_step (id := 4) (GE.reg_of (by kernel_rfl)) (by kernel_rfl)
theorem n40_15s : codeB Try.prog E cx n40_15 st = thenS (codeB Try.prog E cx n40_16 st) (codeB Try.prog E cx n40_18) := GE.seq_step (by kernel_rfl)
theorem n40_9s : codeB Try.prog E cx n40_9 st = thenS (codeB Try.prog E cx n40_10 st) (codeB Try.prog E cx n40_15) := GE.seq_step (by kernel_rfl)
theorem n40_8k : LL.kp (⟨40, 54, b, ro⟩ : Cx).fn (4 * rid n40_9 + 3) = some ⟨[0, 1, 5, 6, 7], [⟨1, 0, 1, true⟩, ⟨5, 0, 1, true⟩, ⟨6, 0, 1, true⟩]⟩ := by kernel_rfl
theorem n40_8s : codeB Try.prog LL ⟨40, 54, b, ro⟩ n40_8 st = headS b ⟨[0, 1, 5, 6, 7], [⟨1, 0, 1, true⟩, ⟨5, 0, 1, true⟩, ⟨6, 0, 1, true⟩]⟩ st (lpB Try.prog LL ⟨40, 54, b, ro⟩ n40_8 n40_9) := GE.lpB_step (by kernel_rfl) (n40_8k b ro)
theorem n40_8g : LL.code ⟨40, 54, b, ro⟩ n40_8 st = headS b ⟨[0, 1, 5, 6, 7], [⟨1, 0, 1, true⟩, ⟨5, 0, 1, true⟩, ⟨6, 0, 1, true⟩]⟩ st (lpB Try.prog LL ⟨40, 54, b, ro⟩ n40_8 n40_9) := GE.lpB_again (by kernel_rfl) (n40_8k b ro)
theorem n40_7s : codeB Try.prog E cx n40_7 st = blockS 0 (codeB Try.prog E cx n40_8 st) st := GE.block_step (by kernel_rfl)
theorem n40_5s : codeB Try.prog E cx n40_5 st = thenS (codeB Try.prog E cx n40_6 st) (codeB Try.prog E cx n40_7) := GE.seq_step (by kernel_rfl)
theorem n40_21s : codeB Try.prog E ⟨f, 54, b, ro⟩ n40_21 st = plainS (runOps Try.prog E b q40_21 (ops [true, true, true, false, false] Try.f40) st) := GE.region_step (id := 6) (GE.reg_of (by kernel_rfl)) (by kernel_rfl)
theorem n40_26s : codeB Try.prog E ⟨f, 54, b, ro⟩ n40_26 st = plainS (runOps Try.prog E b q40_26 (ops [true, true, true, false, true, false, false, false, false] Try.f40) st) := GE.region_step (id := 7) (GE.reg_of (by kernel_rfl)) (by kernel_rfl)
theorem n40_28s : codeB Try.prog E cx n40_28 st = some (.normal, st) := GE.skip_step (by kernel_rfl)
theorem n40_29s : codeB Try.prog LL ⟨40, 54, b, ro⟩ n40_29 st = normS b ⟨[6], [⟨6, 0, 1, true⟩]⟩ (.exit 2) st := GE.exit_step (by kernel_rfl) (by kernel_rfl)
theorem n40_27s : codeB Try.prog E cx n40_27 st = condS (codeB Try.prog E cx n40_28) (codeB Try.prog E cx n40_29) (lk st.σ 21) st := GE.cond_step (c := .tmp 21) (by kernel_rfl)
theorem n40_25s : codeB Try.prog E cx n40_25 st = thenS (codeB Try.prog E cx n40_26 st) (codeB Try.prog E cx n40_27) := GE.seq_step (by kernel_rfl)
theorem n40_33s : codeB Try.prog E ⟨f, 54, b, ro⟩ n40_33 st = plainS (runOps Try.prog E b q40_33 (ops [true, true, true, false, true, false, false, true, false, false, false] Try.f40) st) := GE.region_step (id := 9) (GE.reg_of (by kernel_rfl)) (by kernel_rfl)
theorem n40_36s : codeB Try.prog E ⟨f, 54, b, ro⟩ n40_36 st = plainS (runOps Try.prog E b q40_36 (ops [true, true, true, false, true, false, false, true, false, false, true, false, false] Try.f40) st) := GE.region_step (id := 10) (GE.reg_of (by kernel_rfl)) (by kernel_rfl)
theorem n40_38s : codeB Try.prog E ⟨f, 54, b, ro⟩ n40_38 st = plainS (runOps Try.prog E b q40_38 (ops [true, true, true, false, true, false, false, true, false, false, true, false, true, false] Try.f40) st) := GE.region_step (id := 11) (GE.reg_of (by kernel_rfl)) (by kernel_rfl)
theorem n40_39s : codeB Try.prog E cx n40_39 st = some (.normal, st) := GE.skip_step (by kernel_rfl)
theorem n40_37s : codeB Try.prog E cx n40_37 st = condS (codeB Try.prog E cx n40_38) (codeB Try.prog E cx n40_39) (lk st.σ 27) st := GE.cond_step (c := .tmp 27) (by kernel_rfl)
theorem n40_35s : codeB Try.prog E cx n40_35 st = thenS (codeB Try.prog E cx n40_36 st) (codeB Try.prog E cx n40_37) := GE.seq_step (by kernel_rfl)
theorem n40_41s : codeB Try.prog E ⟨f, 54, b, ro⟩ n40_41 st = plainS (runOps Try.prog E b q40_41 (ops [true, true, true, false, true, false, false, true, false, false, true, true, false] Try.f40) st) := GE.region_step (id := 12) (GE.reg_of (by kernel_rfl)) (by kernel_rfl)
theorem n40_42s : codeB Try.prog E ⟨f, 54, b, ro⟩ n40_42 st = drawS [0, 0, 0, 6, 15, 0, 0, 64, 224, 511, 1023] (runOpsF Try.prog E b q40_42 (ops [true, true, true, false, true, false, false, true, false, false, true, true, true] Try.f40) st) := GE.draw_step (id := 13) (GE.reg_of (by kernel_rfl)) (by kernel_rfl) (by kernel_rfl) (by kernel_rfl)
theorem n40_40s : codeB Try.prog E cx n40_40 st = thenS (codeB Try.prog E cx n40_41 st) (codeB Try.prog E cx n40_42) := GE.seq_step (by kernel_rfl)
theorem n40_34s : codeB Try.prog E cx n40_34 st = thenS (codeB Try.prog E cx n40_35 st) (codeB Try.prog E cx n40_40) := GE.seq_step (by kernel_rfl)
theorem n40_32s : codeB Try.prog E cx n40_32 st = thenS (codeB Try.prog E cx n40_33 st) (codeB Try.prog E cx n40_34) := GE.seq_step (by kernel_rfl)
theorem n40_31s : codeB Try.prog E cx n40_31 st = blockS 3 (codeB Try.prog E cx n40_32 st) st := GE.block_step (by kernel_rfl)
theorem n40_43s : codeB Try.prog E ⟨f, 54, b, ro⟩ n40_43 st = plainS (runOps Try.prog E b q40_43 (ops [true, true, true, false, true, false, false, true, true] Try.f40) st) := GE.region_step (id := 8) (GE.reg_of (by kernel_rfl)) (by kernel_rfl)
theorem n40_30s : codeB Try.prog E cx n40_30 st = thenS (codeB Try.prog E cx n40_31 st) (codeB Try.prog E cx n40_43) := GE.seq_step (by kernel_rfl)
theorem n40_24s : codeB Try.prog E cx n40_24 st = thenS (codeB Try.prog E cx n40_25 st) (codeB Try.prog E cx n40_30) := GE.seq_step (by kernel_rfl)
theorem n40_23k : LL.kp (⟨40, 54, b, ro⟩ : Cx).fn (4 * rid n40_24 + 3) = some ⟨[1, 5, 6, 8], [⟨1, 0, 1, true⟩, ⟨5, 0, 1, true⟩, ⟨6, 0, 1, true⟩]⟩ := by kernel_rfl
theorem n40_23s : codeB Try.prog LL ⟨40, 54, b, ro⟩ n40_23 st = headS b ⟨[1, 5, 6, 8], [⟨1, 0, 1, true⟩, ⟨5, 0, 1, true⟩, ⟨6, 0, 1, true⟩]⟩ st (lpB Try.prog LL ⟨40, 54, b, ro⟩ n40_23 n40_24) := GE.lpB_step (by kernel_rfl) (n40_23k b ro)
theorem n40_23g : LL.code ⟨40, 54, b, ro⟩ n40_23 st = headS b ⟨[1, 5, 6, 8], [⟨1, 0, 1, true⟩, ⟨5, 0, 1, true⟩, ⟨6, 0, 1, true⟩]⟩ st (lpB Try.prog LL ⟨40, 54, b, ro⟩ n40_23 n40_24) := GE.lpB_again (by kernel_rfl) (n40_23k b ro)
theorem n40_22s : codeB Try.prog E cx n40_22 st = blockS 2 (codeB Try.prog E cx n40_23 st) st := GE.block_step (by kernel_rfl)
theorem n40_20s : codeB Try.prog E cx n40_20 st = thenS (codeB Try.prog E cx n40_21 st) (codeB Try.prog E cx n40_22) := GE.seq_step (by kernel_rfl)
theorem n40_45s : codeB Try.prog E ⟨f, 54, b, ro⟩ n40_45 st = plainS (runOps Try.prog E b q40_45 (ops [true, true, true, true, false] Try.f40) st) := GE.region_step (id := 14) (GE.reg_of (by kernel_rfl)) (by kernel_rfl)
theorem n40_46s : codeB Try.prog LL ⟨40, 54, b, ro⟩ n40_46 st = normS b ⟨[4], [⟨4, 0, 1, true⟩]⟩ .ret st := GE.ret_step (by kernel_rfl) (by kernel_rfl)
theorem n40_44s : codeB Try.prog E cx n40_44 st = thenS (codeB Try.prog E cx n40_45 st) (codeB Try.prog E cx n40_46) := GE.seq_step (by kernel_rfl)
theorem n40_19s : codeB Try.prog E cx n40_19 st = thenS (codeB Try.prog E cx n40_20 st) (codeB Try.prog E cx n40_44) := GE.seq_step (by kernel_rfl)
theorem n40_4s : codeB Try.prog E cx n40_4 st = thenS (codeB Try.prog E cx n40_5 st) (codeB Try.prog E cx n40_19) := GE.seq_step (by kernel_rfl)
theorem n40_2s : codeB Try.prog E cx n40_2 st = thenS (codeB Try.prog E cx n40_3 st) (codeB Try.prog E cx n40_4) := GE.seq_step (by kernel_rfl)
theorem n40_0s : codeB Try.prog E cx n40_0 st = thenS (codeB Try.prog E cx n40_1 st) (codeB Try.prog E cx n40_2) := GE.seq_step (by kernel_rfl)
noncomputable def n42_0 : Code := bodyOf Try.f42
noncomputable def n42_1 : Code := cl n42_0
noncomputable def q42_1 : List Oper := opsOf n42_1
noncomputable def n42_2 : Code := cr n42_0
noncomputable def n42_3 : Code := cl n42_2
noncomputable def n42_4 : Code := cl n42_3
noncomputable def q42_4 : List Oper := opsOf n42_4
noncomputable def n42_5 : Code := cr n42_3
noncomputable def n42_6 : Code := cl n42_5
noncomputable def q42_6 : List Oper := opsOf n42_6
noncomputable def n42_7 : Code := cr n42_5
noncomputable def n42_8 : Code := cl n42_7
noncomputable def n42_9 : Code := cl n42_8
noncomputable def q42_9 : List Oper := opsOf n42_9
noncomputable def n42_10 : Code := cr n42_8
noncomputable def n42_11 : Code := cr n42_7
noncomputable def n42_12 : Code := cr n42_2
noncomputable def n42_13 : Code := cl n42_12
noncomputable def q42_13 : List Oper := opsOf n42_13
noncomputable def n42_14 : Code := cr n42_12
noncomputable def n42_15 : Code := cl n42_14
noncomputable def n42_16 : Code := cl n42_15
noncomputable def q42_16 : List Oper := opsOf n42_16
noncomputable def n42_17 : Code := cr n42_15
noncomputable def n42_18 : Code := cl n42_17
noncomputable def n42_19 : Code := cl n42_18
noncomputable def q42_19 : List Oper := opsOf n42_19
noncomputable def n42_20 : Code := cr n42_18
noncomputable def n42_21 : Code := cr n42_17
noncomputable def n42_22 : Code := cr n42_14
noncomputable def n42_23 : Code := cl n42_22
noncomputable def q42_23 : List Oper := opsOf n42_23
noncomputable def n42_24 : Code := cr n42_22
theorem body42 : Try.f42.body = some n42_0 := by kernel_rfl
theorem run42 (E : Ev) (args : List Value) (h : List Blk) (hl : args.length ≤ 26) : runB Try.prog E 42 args h = endS Try.prog [.tmp 4, .tmp 5, .tmp 6] h.length (codeB Try.prog E ⟨42, 26, h.length, none⟩ n42_0 ⟨enumT 0 args, h, []⟩) := GE.run_step Try.func42 body42 (by kernel_rfl) (by decide) (by kernel_rfl) hl
theorem n42_1s : codeB Try.prog E ⟨f, 26, b, ro⟩ n42_1 st = plainS (runOps Try.prog E b q42_1 (ops [false] Try.f42) st) := GE.region_step (id := 0) (GE.reg_of (by kernel_rfl)) (by kernel_rfl)
theorem n42_4s : codeB Try.prog E ⟨f, 26, b, ro⟩ n42_4 st = plainS (runOps Try.prog E b q42_4 (ops [true, false, false] Try.f42) st) := GE.region_step (id := 1) (GE.reg_of (by kernel_rfl)) (by kernel_rfl)
theorem n42_6s : codeB Try.prog E ⟨f, 26, b, ro⟩ n42_6 st = plainS (runOps Try.prog E b q42_6 (ops [true, false, true, false] Try.f42) st) := GE.region_step (id := 2) (GE.reg_of (by kernel_rfl)) (by kernel_rfl)
theorem n42_9s : codeB Try.prog E ⟨f, 26, b, ro⟩ n42_9 st = plainS (runOps Try.prog E b q42_9 (ops [true, false, true, true, false, false] Try.f42) st) := GE.region_step (id := 3) (GE.reg_of (by kernel_rfl)) (by kernel_rfl)
theorem n42_10s : codeB Try.prog LL ⟨42, 26, b, ro⟩ n42_10 st = normS b ⟨[4, 5, 6], []⟩ .ret st := GE.ret_step (by kernel_rfl) (by kernel_rfl)
theorem n42_8s : codeB Try.prog E cx n42_8 st = thenS (codeB Try.prog E cx n42_9 st) (codeB Try.prog E cx n42_10) := GE.seq_step (by kernel_rfl)
theorem n42_11s : codeB Try.prog E cx n42_11 st = some (.normal, st) := GE.skip_step (by kernel_rfl)
theorem n42_7s : codeB Try.prog E cx n42_7 st = condS (codeB Try.prog E cx n42_8) (codeB Try.prog E cx n42_11) (lk st.σ 13) st := GE.cond_step (c := .tmp 13) (by kernel_rfl)
theorem n42_5s : codeB Try.prog E cx n42_5 st = thenS (codeB Try.prog E cx n42_6 st) (codeB Try.prog E cx n42_7) := GE.seq_step (by kernel_rfl)
theorem n42_3s : codeB Try.prog E cx n42_3 st = thenS (codeB Try.prog E cx n42_4 st) (codeB Try.prog E cx n42_5) := GE.seq_step (by kernel_rfl)
theorem n42_13s : codeB Try.prog E ⟨f, 26, b, ro⟩ n42_13 st = plainS (runOps Try.prog E b q42_13 (ops [true, true, false] Try.f42) st) := GE.region_step (id := 4) (GE.reg_of (by kernel_rfl)) (by kernel_rfl)
theorem n42_16s : codeB Try.prog E ⟨f, 26, b, ro⟩ n42_16 st = plainS (runOps Try.prog E b q42_16 (ops [true, true, true, false, false] Try.f42) st) := GE.region_step (id := 5) (GE.reg_of (by kernel_rfl)) (by kernel_rfl)
theorem n42_19s : codeB Try.prog E ⟨f, 26, b, ro⟩ n42_19 st = plainS (runOps Try.prog E b q42_19 (ops [true, true, true, false, true, false, false] Try.f42) st) := GE.region_step (id := 6) (GE.reg_of (by kernel_rfl)) (by kernel_rfl)
theorem n42_20s : codeB Try.prog LL ⟨42, 26, b, ro⟩ n42_20 st = normS b ⟨[4, 5, 6], []⟩ .ret st := GE.ret_step (by kernel_rfl) (by kernel_rfl)
theorem n42_18s : codeB Try.prog E cx n42_18 st = thenS (codeB Try.prog E cx n42_19 st) (codeB Try.prog E cx n42_20) := GE.seq_step (by kernel_rfl)
theorem n42_21s : codeB Try.prog E cx n42_21 st = some (.normal, st) := GE.skip_step (by kernel_rfl)
theorem n42_17s : codeB Try.prog E cx n42_17 st = condS (codeB Try.prog E cx n42_18) (codeB Try.prog E cx n42_21) (lk st.σ 23) st := GE.cond_step (c := .tmp 23) (by kernel_rfl)
theorem n42_15s : codeB Try.prog E cx n42_15 st = thenS (codeB Try.prog E cx n42_16 st) (codeB Try.prog E cx n42_17) := GE.seq_step (by kernel_rfl)
theorem n42_23s : codeB Try.prog E ⟨f, 26, b, ro⟩ n42_23 st = plainS (runOps Try.prog E b q42_23 (ops [true, true, true, true, false] Try.f42) st) := GE.region_step (id := 7) (GE.reg_of (by kernel_rfl)) (by kernel_rfl)
theorem n42_24s : codeB Try.prog LL ⟨42, 26, b, ro⟩ n42_24 st = normS b ⟨[4, 5, 6], []⟩ .ret st := GE.ret_step (by kernel_rfl) (by kernel_rfl)
theorem n42_22s : codeB Try.prog E cx n42_22 st = thenS (codeB Try.prog E cx n42_23 st) (codeB Try.prog E cx n42_24) := GE.seq_step (by kernel_rfl)
theorem n42_14s : codeB Try.prog E cx n42_14 st = thenS (codeB Try.prog E cx n42_15 st) (codeB Try.prog E cx n42_22) := GE.seq_step (by kernel_rfl)
theorem n42_12s : codeB Try.prog E cx n42_12 st = thenS (codeB Try.prog E cx n42_13 st) (codeB Try.prog E cx n42_14) := GE.seq_step (by kernel_rfl)
theorem n42_2s : codeB Try.prog E cx n42_2 st = thenS (codeB Try.prog E cx n42_3 st) (codeB Try.prog E cx n42_12) := GE.seq_step (by kernel_rfl)
theorem n42_0s : codeB Try.prog E cx n42_0 st = thenS (codeB Try.prog E cx n42_1 st) (codeB Try.prog E cx n42_2) := GE.seq_step (by kernel_rfl)
noncomputable def n44_0 : Code := bodyOf Try.f44
noncomputable def n44_1 : Code := cl n44_0
noncomputable def q44_1 : List Oper := opsOf n44_1
noncomputable def n44_2 : Code := cr n44_0
noncomputable def n44_3 : Code := cl n44_2
noncomputable def q44_3 : List Oper := opsOf n44_3
noncomputable def n44_4 : Code := cr n44_2
noncomputable def n44_5 : Code := cl n44_4
noncomputable def n44_6 : Code := cl n44_5
noncomputable def q44_6 : List Oper := opsOf n44_6
noncomputable def n44_7 : Code := cr n44_5
noncomputable def n44_8 : Code := cl n44_7
noncomputable def n44_9 : Code := cl n44_8
noncomputable def n44_10 : Code := cl n44_9
noncomputable def n44_11 : Code := cl n44_10
noncomputable def q44_11 : List Oper := opsOf n44_11
noncomputable def n44_12 : Code := cr n44_10
noncomputable def n44_13 : Code := cl n44_12
noncomputable def n44_14 : Code := cr n44_12
noncomputable def n44_15 : Code := cr n44_9
noncomputable def n44_16 : Code := cl n44_15
noncomputable def n44_17 : Code := cl n44_16
noncomputable def q44_17 : List Oper := opsOf n44_17
noncomputable def n44_18 : Code := cr n44_15
noncomputable def q44_18 : List Oper := opsOf n44_18
noncomputable def n44_19 : Code := cr n44_4
noncomputable def n44_20 : Code := cl n44_19
noncomputable def q44_20 : List Oper := opsOf n44_20
noncomputable def n44_21 : Code := cr n44_19
theorem body44 : Try.f44.body = some n44_0 := by kernel_rfl
theorem run44 (E : Ev) (args : List Value) (h : List Blk) (hl : args.length ≤ 26) : runB Try.prog E 44 args h = endS Try.prog [.tmp 2] h.length (codeB Try.prog E ⟨44, 26, h.length, none⟩ n44_0 ⟨enumT 0 args, h, []⟩) := GE.run_step Try.func44 body44 (by kernel_rfl) (by decide) (by kernel_rfl) hl
theorem n44_1s : codeB Try.prog E ⟨f, 26, b, ro⟩ n44_1 st = plainS (runOps Try.prog E b q44_1 (ops [false] Try.f44) st) := GE.region_step (id := 0) (GE.reg_of (by kernel_rfl)) (by kernel_rfl)
theorem n44_3s : codeB Try.prog E ⟨f, 26, b, ro⟩ n44_3 st = plainS (runOps Try.prog E b q44_3 (ops [true, false] Try.f44) st) := GE.region_step (id := 1) (GE.reg_of (by kernel_rfl)) (by kernel_rfl)
theorem n44_6s : codeB Try.prog E ⟨f, 26, b, ro⟩ n44_6 st = plainS (runOps Try.prog E b q44_6 (ops [true, true, false, false] Try.f44) st) := GE.region_step (id := 2) (GE.reg_of (by kernel_rfl)) (by kernel_rfl)
theorem n44_11s : codeB Try.prog E ⟨f, 26, b, ro⟩ n44_11 st = plainS (runOps Try.prog E b q44_11 (ops [true, true, false, true, false, false, false, false] Try.f44) st) := GE.region_step (id := 3) (GE.reg_of (by kernel_rfl)) (by kernel_rfl)
theorem n44_13s : codeB Try.prog E cx n44_13 st = some (.normal, st) := GE.skip_step (by kernel_rfl)
theorem n44_14s : codeB Try.prog LL ⟨44, 26, b, ro⟩ n44_14 st = normS b ⟨[3], [⟨3, 0, 2, true⟩]⟩ (.exit 0) st := GE.exit_step (by kernel_rfl) (by kernel_rfl)
theorem n44_12s : codeB Try.prog E cx n44_12 st = condS (codeB Try.prog E cx n44_13) (codeB Try.prog E cx n44_14) (lk st.σ 9) st := GE.cond_step (c := .tmp 9) (by kernel_rfl)
theorem n44_10s : codeB Try.prog E cx n44_10 st = thenS (codeB Try.prog E cx n44_11 st) (codeB Try.prog E cx n44_12) := GE.seq_step (by kernel_rfl)
theorem n44_17s : codeB Try.prog E ⟨f, 26, b, ro⟩ n44_17 st = drawS [0, 0, 0, 6, 14, 0, 0, 64, 224, 480, 1022, 2046, 4095, 8191] (runOpsF Try.prog E b q44_17 (ops [true, true, false, true, false, false, true, false, false] Try.f44) st) := GE.draw_step (id := 5) (GE.reg_of (by kernel_rfl)) (by kernel_rfl) (by kernel_rfl) (by kernel_rfl)
theorem n44_16s : codeB Try.prog E cx n44_16 st = blockS 1 (codeB Try.prog E cx n44_17 st) st := GE.block_step (by kernel_rfl)
theorem n44_18s : codeB Try.prog E ⟨f, 26, b, ro⟩ n44_18 st = plainS (runOps Try.prog E b q44_18 (ops [true, true, false, true, false, false, true, true] Try.f44) st) := GE.region_step (id := 4) (GE.reg_of (by kernel_rfl)) (by kernel_rfl)
theorem n44_15s : codeB Try.prog E cx n44_15 st = thenS (codeB Try.prog E cx n44_16 st) (codeB Try.prog E cx n44_18) := GE.seq_step (by kernel_rfl)
theorem n44_9s : codeB Try.prog E cx n44_9 st = thenS (codeB Try.prog E cx n44_10 st) (codeB Try.prog E cx n44_15) := GE.seq_step (by kernel_rfl)
theorem n44_8k : LL.kp (⟨44, 26, b, ro⟩ : Cx).fn (4 * rid n44_9 + 3) = some ⟨[0, 3, 4], [⟨0, 0, 1, true⟩, ⟨3, 0, 2, true⟩]⟩ := by kernel_rfl
theorem n44_8s : codeB Try.prog LL ⟨44, 26, b, ro⟩ n44_8 st = headS b ⟨[0, 3, 4], [⟨0, 0, 1, true⟩, ⟨3, 0, 2, true⟩]⟩ st (lpB Try.prog LL ⟨44, 26, b, ro⟩ n44_8 n44_9) := GE.lpB_step (by kernel_rfl) (n44_8k b ro)
theorem n44_8g : LL.code ⟨44, 26, b, ro⟩ n44_8 st = headS b ⟨[0, 3, 4], [⟨0, 0, 1, true⟩, ⟨3, 0, 2, true⟩]⟩ st (lpB Try.prog LL ⟨44, 26, b, ro⟩ n44_8 n44_9) := GE.lpB_again (by kernel_rfl) (n44_8k b ro)
theorem n44_7s : codeB Try.prog E cx n44_7 st = blockS 0 (codeB Try.prog E cx n44_8 st) st := GE.block_step (by kernel_rfl)
theorem n44_5s : codeB Try.prog E cx n44_5 st = thenS (codeB Try.prog E cx n44_6 st) (codeB Try.prog E cx n44_7) := GE.seq_step (by kernel_rfl)
theorem n44_20s : codeB Try.prog E ⟨f, 26, b, ro⟩ n44_20 st = plainS (runOps Try.prog E b q44_20 (ops [true, true, true, false] Try.f44) st) := GE.region_step (id := 6) (GE.reg_of (by kernel_rfl)) (by kernel_rfl)
theorem n44_21s : codeB Try.prog LL ⟨44, 26, b, ro⟩ n44_21 st = normS b ⟨[2], [⟨2, 0, 2, true⟩]⟩ .ret st := GE.ret_step (by kernel_rfl) (by kernel_rfl)
theorem n44_19s : codeB Try.prog E cx n44_19 st = thenS (codeB Try.prog E cx n44_20 st) (codeB Try.prog E cx n44_21) := GE.seq_step (by kernel_rfl)
theorem n44_4s : codeB Try.prog E cx n44_4 st = thenS (codeB Try.prog E cx n44_5 st) (codeB Try.prog E cx n44_19) := GE.seq_step (by kernel_rfl)
theorem n44_2s : codeB Try.prog E cx n44_2 st = thenS (codeB Try.prog E cx n44_3 st) (codeB Try.prog E cx n44_4) := GE.seq_step (by kernel_rfl)
theorem n44_0s : codeB Try.prog E cx n44_0 st = thenS (codeB Try.prog E cx n44_1 st) (codeB Try.prog E cx n44_2) := GE.seq_step (by kernel_rfl)
noncomputable def n45_0 : Code := bodyOf Try.f45
noncomputable def n45_1 : Code := cl n45_0
noncomputable def q45_1 : List Oper := opsOf n45_1
noncomputable def n45_2 : Code := cr n45_0
noncomputable def n45_3 : Code := cl n45_2
noncomputable def n45_4 : Code := cl n45_3
noncomputable def n45_5 : Code := cl n45_4
noncomputable def q45_5 : List Oper := opsOf n45_5
noncomputable def n45_6 : Code := cr n45_4
noncomputable def n45_7 : Code := cl n45_6
noncomputable def n45_8 : Code := cl n45_7
noncomputable def q45_8 : List Oper := opsOf n45_8
noncomputable def n45_9 : Code := cr n45_7
noncomputable def n45_10 : Code := cr n45_6
noncomputable def n45_11 : Code := cl n45_10
noncomputable def q45_11 : List Oper := opsOf n45_11
noncomputable def n45_12 : Code := cr n45_10
noncomputable def n45_13 : Code := cl n45_12
noncomputable def n45_14 : Code := cl n45_13
noncomputable def q45_14 : List Oper := opsOf n45_14
noncomputable def n45_15 : Code := cr n45_13
noncomputable def n45_16 : Code := cr n45_12
noncomputable def n45_17 : Code := cl n45_16
noncomputable def q45_17 : List Oper := opsOf n45_17
noncomputable def n45_18 : Code := cr n45_16
noncomputable def n45_19 : Code := cl n45_18
noncomputable def n45_20 : Code := cl n45_19
noncomputable def q45_20 : List Oper := opsOf n45_20
noncomputable def n45_21 : Code := cr n45_19
noncomputable def n45_22 : Code := cr n45_18
noncomputable def n45_23 : Code := cr n45_2
noncomputable def n45_24 : Code := cl n45_23
noncomputable def q45_24 : List Oper := opsOf n45_24
noncomputable def n45_25 : Code := cr n45_23
theorem body45 : Try.f45.body = some n45_0 := by kernel_rfl
theorem run45 (E : Ev) (args : List Value) (h : List Blk) (hl : args.length ≤ 14) : runB Try.prog E 45 args h = endS Try.prog [.tmp 2] h.length (codeB Try.prog E ⟨45, 14, h.length, none⟩ n45_0 ⟨enumT 0 args, h, []⟩) := GE.run_step Try.func45 body45 (by kernel_rfl) (by decide) (by kernel_rfl) hl
theorem n45_1s : codeB Try.prog E ⟨f, 14, b, ro⟩ n45_1 st = plainS (runOps Try.prog E b q45_1 (ops [false] Try.f45) st) := GE.region_step (id := 0) (GE.reg_of (by kernel_rfl)) (by kernel_rfl)
theorem n45_5s : codeB Try.prog E ⟨f, 14, b, ro⟩ n45_5 st = plainS (runOps Try.prog E b q45_5 (ops [true, false, false, false] Try.f45) st) := GE.region_step (id := 1) (GE.reg_of (by kernel_rfl)) (by kernel_rfl)
theorem n45_8s : codeB Try.prog E ⟨f, 14, b, ro⟩ n45_8 st = plainS (runOps Try.prog E b q45_8 (ops [true, false, false, true, false, false] Try.f45) st) := GE.region_step (id := 2) (GE.reg_of (by kernel_rfl)) (by kernel_rfl)
theorem n45_9s : codeB Try.prog LL ⟨45, 14, b, ro⟩ n45_9 st = normS b ⟨[2], []⟩ .ret st := GE.ret_step (by kernel_rfl) (by kernel_rfl)
theorem n45_7s : codeB Try.prog E cx n45_7 st = thenS (codeB Try.prog E cx n45_8 st) (codeB Try.prog E cx n45_9) := GE.seq_step (by kernel_rfl)
theorem n45_11s : codeB Try.prog E ⟨f, 14, b, ro⟩ n45_11 st = plainS (runOps Try.prog E b q45_11 (ops [true, false, false, true, true, false] Try.f45) st) := GE.region_step (id := 3) (GE.reg_of (by kernel_rfl)) (by kernel_rfl)
theorem n45_14s : codeB Try.prog E ⟨f, 14, b, ro⟩ n45_14 st = plainS (runOps Try.prog E b q45_14 (ops [true, false, false, true, true, true, false, false] Try.f45) st) := GE.region_step (id := 4) (GE.reg_of (by kernel_rfl)) (by kernel_rfl)
theorem n45_15s : codeB Try.prog LL ⟨45, 14, b, ro⟩ n45_15 st = normS b ⟨[2], []⟩ .ret st := GE.ret_step (by kernel_rfl) (by kernel_rfl)
theorem n45_13s : codeB Try.prog E cx n45_13 st = thenS (codeB Try.prog E cx n45_14 st) (codeB Try.prog E cx n45_15) := GE.seq_step (by kernel_rfl)
theorem n45_17s : codeB Try.prog E ⟨f, 14, b, ro⟩ n45_17 st = plainS (runOps Try.prog E b q45_17 (ops [true, false, false, true, true, true, true, false] Try.f45) st) := GE.region_step (id := 5) (GE.reg_of (by kernel_rfl)) (by kernel_rfl)
theorem n45_20s : codeB Try.prog E ⟨f, 14, b, ro⟩ n45_20 st = plainS (runOps Try.prog E b q45_20 (ops [true, false, false, true, true, true, true, true, false, false] Try.f45) st) := GE.region_step (id := 6) (GE.reg_of (by kernel_rfl)) (by kernel_rfl)
theorem n45_21s : codeB Try.prog LL ⟨45, 14, b, ro⟩ n45_21 st = normS b ⟨[2], []⟩ .ret st := GE.ret_step (by kernel_rfl) (by kernel_rfl)
theorem n45_19s : codeB Try.prog E cx n45_19 st = thenS (codeB Try.prog E cx n45_20 st) (codeB Try.prog E cx n45_21) := GE.seq_step (by kernel_rfl)
theorem n45_22s : codeB Try.prog E cx n45_22 st = some (.normal, st) := GE.skip_step (by kernel_rfl)
theorem n45_18s : codeB Try.prog E cx n45_18 st = condS (codeB Try.prog E cx n45_19) (codeB Try.prog E cx n45_22) (lk st.σ 11) st := GE.cond_step (c := .tmp 11) (by kernel_rfl)
theorem n45_16s : codeB Try.prog E cx n45_16 st = thenS (codeB Try.prog E cx n45_17 st) (codeB Try.prog E cx n45_18) := GE.seq_step (by kernel_rfl)
theorem n45_12s : codeB Try.prog E cx n45_12 st = condS (codeB Try.prog E cx n45_13) (codeB Try.prog E cx n45_16) (lk st.σ 7) st := GE.cond_step (c := .tmp 7) (by kernel_rfl)
theorem n45_10s : codeB Try.prog E cx n45_10 st = thenS (codeB Try.prog E cx n45_11 st) (codeB Try.prog E cx n45_12) := GE.seq_step (by kernel_rfl)
theorem n45_6s : codeB Try.prog E cx n45_6 st = condS (codeB Try.prog E cx n45_7) (codeB Try.prog E cx n45_10) (lk st.σ 3) st := GE.cond_step (c := .tmp 3) (by kernel_rfl)
theorem n45_4s : codeB Try.prog E cx n45_4 st = thenS (codeB Try.prog E cx n45_5 st) (codeB Try.prog E cx n45_6) := GE.seq_step (by kernel_rfl)
theorem n45_3s : codeB Try.prog E cx n45_3 st = blockS 0 (codeB Try.prog E cx n45_4 st) st := GE.block_step (by kernel_rfl)
theorem n45_24s : codeB Try.prog E ⟨f, 14, b, ro⟩ n45_24 st = plainS (runOps Try.prog E b q45_24 (ops [true, true, false] Try.f45) st) := GE.region_step (id := 7) (GE.reg_of (by kernel_rfl)) (by kernel_rfl)
theorem n45_25s : codeB Try.prog LL ⟨45, 14, b, ro⟩ n45_25 st = normS b ⟨[2], []⟩ .ret st := GE.ret_step (by kernel_rfl) (by kernel_rfl)
theorem n45_23s : codeB Try.prog E cx n45_23 st = thenS (codeB Try.prog E cx n45_24 st) (codeB Try.prog E cx n45_25) := GE.seq_step (by kernel_rfl)
theorem n45_2s : codeB Try.prog E cx n45_2 st = thenS (codeB Try.prog E cx n45_3 st) (codeB Try.prog E cx n45_23) := GE.seq_step (by kernel_rfl)
theorem n45_0s : codeB Try.prog E cx n45_0 st = thenS (codeB Try.prog E cx n45_1 st) (codeB Try.prog E cx n45_2) := GE.seq_step (by kernel_rfl)
noncomputable def n47_0 : Code := bodyOf Try.f47
noncomputable def n47_1 : Code := cl n47_0
noncomputable def q47_1 : List Oper := opsOf n47_1
noncomputable def n47_2 : Code := cr n47_0
noncomputable def n47_3 : Code := cl n47_2
noncomputable def n47_4 : Code := cl n47_3
noncomputable def q47_4 : List Oper := opsOf n47_4
noncomputable def n47_5 : Code := cr n47_3
noncomputable def n47_6 : Code := cl n47_5
noncomputable def q47_6 : List Oper := opsOf n47_6
noncomputable def n47_7 : Code := cr n47_5
noncomputable def n47_8 : Code := cl n47_7
noncomputable def n47_9 : Code := cl n47_8
noncomputable def q47_9 : List Oper := opsOf n47_9
noncomputable def n47_10 : Code := cr n47_8
noncomputable def n47_11 : Code := cr n47_7
noncomputable def n47_12 : Code := cr n47_2
noncomputable def n47_13 : Code := cl n47_12
noncomputable def q47_13 : List Oper := opsOf n47_13
noncomputable def n47_14 : Code := cr n47_12
noncomputable def n47_15 : Code := cl n47_14
noncomputable def n47_16 : Code := cl n47_15
noncomputable def n47_17 : Code := cl n47_16
noncomputable def q47_17 : List Oper := opsOf n47_17
noncomputable def n47_18 : Code := cr n47_16
noncomputable def n47_19 : Code := cl n47_18
noncomputable def n47_20 : Code := cl n47_19
noncomputable def q47_20 : List Oper := opsOf n47_20
noncomputable def n47_21 : Code := cr n47_19
noncomputable def n47_22 : Code := cr n47_18
noncomputable def n47_23 : Code := cl n47_22
noncomputable def q47_23 : List Oper := opsOf n47_23
noncomputable def n47_24 : Code := cr n47_22
noncomputable def n47_25 : Code := cl n47_24
noncomputable def n47_26 : Code := cl n47_25
noncomputable def q47_26 : List Oper := opsOf n47_26
noncomputable def n47_27 : Code := cr n47_25
noncomputable def n47_28 : Code := cr n47_24
noncomputable def n47_29 : Code := cr n47_14
noncomputable def n47_30 : Code := cl n47_29
noncomputable def q47_30 : List Oper := opsOf n47_30
noncomputable def n47_31 : Code := cr n47_29
theorem body47 : Try.f47.body = some n47_0 := by kernel_rfl
theorem run47 (E : Ev) (args : List Value) (h : List Blk) (hl : args.length ≤ 48) : runB Try.prog E 47 args h = endS Try.prog [.tmp 8] h.length (codeB Try.prog E ⟨47, 48, h.length, none⟩ n47_0 ⟨enumT 0 args, h, []⟩) := GE.run_step Try.func47 body47 (by kernel_rfl) (by decide) (by kernel_rfl) hl
theorem n47_1s : codeB Try.prog E ⟨f, 48, b, ro⟩ n47_1 st = plainS (runOps Try.prog E b q47_1 (ops [false] Try.f47) st) := GE.region_step (id := 0) (GE.reg_of (by kernel_rfl)) (by kernel_rfl)
theorem n47_4s : codeB Try.prog E ⟨f, 48, b, ro⟩ n47_4 st = plainS (runOps Try.prog E b q47_4 (ops [true, false, false] Try.f47) st) := GE.region_step (id := 1) (GE.reg_of (by kernel_rfl)) (by kernel_rfl)
theorem n47_6s : codeB Try.prog E ⟨f, 48, b, ro⟩ n47_6 st = plainS (runOps Try.prog E b q47_6 (ops [true, false, true, false] Try.f47) st) := GE.region_step (id := 2) (GE.reg_of (by kernel_rfl)) (by kernel_rfl)
theorem n47_9s : codeB Try.prog E ⟨f, 48, b, ro⟩ n47_9 st = plainS (runOps Try.prog E b q47_9 (ops [true, false, true, true, false, false] Try.f47) st) := GE.region_step (id := 3) (GE.reg_of (by kernel_rfl)) (by kernel_rfl)
theorem n47_10s : codeB Try.prog LL ⟨47, 48, b, ro⟩ n47_10 st = normS b ⟨[8], []⟩ .ret st := GE.ret_step (by kernel_rfl) (by kernel_rfl)
theorem n47_8s : codeB Try.prog E cx n47_8 st = thenS (codeB Try.prog E cx n47_9 st) (codeB Try.prog E cx n47_10) := GE.seq_step (by kernel_rfl)
theorem n47_11s : codeB Try.prog E cx n47_11 st = some (.normal, st) := GE.skip_step (by kernel_rfl)
theorem n47_7s : codeB Try.prog E cx n47_7 st = condS (codeB Try.prog E cx n47_8) (codeB Try.prog E cx n47_11) (lk st.σ 15) st := GE.cond_step (c := .tmp 15) (by kernel_rfl)
theorem n47_5s : codeB Try.prog E cx n47_5 st = thenS (codeB Try.prog E cx n47_6 st) (codeB Try.prog E cx n47_7) := GE.seq_step (by kernel_rfl)
theorem n47_3s : codeB Try.prog E cx n47_3 st = thenS (codeB Try.prog E cx n47_4 st) (codeB Try.prog E cx n47_5) := GE.seq_step (by kernel_rfl)
theorem n47_13s : codeB Try.prog E ⟨f, 48, b, ro⟩ n47_13 st = plainS (runOps Try.prog E b q47_13 (ops [true, true, false] Try.f47) st) := GE.region_step (id := 4) (GE.reg_of (by kernel_rfl)) (by kernel_rfl)
theorem q47_17g4 : gd q47_17 4 = some 25 := by kernel_rfl
theorem n47_17s : codeB Try.prog E ⟨f, 48, b, ro⟩ n47_17 st = plainS (runOps Try.prog E b q47_17 (ops [true, true, true, false, false, false] Try.f47) st) := GE.region_step (id := 5) (GE.reg_of (by kernel_rfl)) (by kernel_rfl)
theorem n47_20s : codeB Try.prog E ⟨f, 48, b, ro⟩ n47_20 st = plainS (runOps Try.prog E b q47_20 (ops [true, true, true, false, false, true, false, false] Try.f47) st) := GE.region_step (id := 6) (GE.reg_of (by kernel_rfl)) (by kernel_rfl)
theorem n47_21s : codeB Try.prog LL ⟨47, 48, b, ro⟩ n47_21 st = normS b ⟨[8], []⟩ .ret st := GE.ret_step (by kernel_rfl) (by kernel_rfl)
theorem n47_19s : codeB Try.prog E cx n47_19 st = thenS (codeB Try.prog E cx n47_20 st) (codeB Try.prog E cx n47_21) := GE.seq_step (by kernel_rfl)
theorem q47_23g3 : gd q47_23 3 = some 35 := by kernel_rfl
theorem n47_23s : codeB Try.prog E ⟨f, 48, b, ro⟩ n47_23 st = drawS [0, 0, 3, 7, 15, 15, 15, 111, 239, 15, 15, 1551, 3599, 8191, 16383, 32767, 65535] (runOpsF Try.prog E b q47_23 (ops [true, true, true, false, false, true, true, false] Try.f47) st) := GE.draw_step (id := 7) (GE.reg_of (by kernel_rfl)) (by kernel_rfl) (by kernel_rfl) (by kernel_rfl)
theorem n47_26s : codeB Try.prog E ⟨f, 48, b, ro⟩ n47_26 st = plainS (runOps Try.prog E b q47_26 (ops [true, true, true, false, false, true, true, true, false, false] Try.f47) st) := GE.region_step (id := 8) (GE.reg_of (by kernel_rfl)) (by kernel_rfl)
theorem n47_27s : codeB Try.prog LL ⟨47, 48, b, ro⟩ n47_27 st = normS b ⟨[8], []⟩ .ret st := GE.ret_step (by kernel_rfl) (by kernel_rfl)
theorem n47_25s : codeB Try.prog E cx n47_25 st = thenS (codeB Try.prog E cx n47_26 st) (codeB Try.prog E cx n47_27) := GE.seq_step (by kernel_rfl)
theorem n47_28s : codeB Try.prog E cx n47_28 st = some (.normal, st) := GE.skip_step (by kernel_rfl)
theorem n47_24s : codeB Try.prog E cx n47_24 st = condS (codeB Try.prog E cx n47_25) (codeB Try.prog E cx n47_28) (lk st.σ 31) st := GE.cond_step (c := .tmp 31) (by kernel_rfl)
theorem n47_22s : codeB Try.prog E cx n47_22 st = thenS (codeB Try.prog E cx n47_23 st) (codeB Try.prog E cx n47_24) := GE.seq_step (by kernel_rfl)
theorem n47_18s : codeB Try.prog E cx n47_18 st = condS (codeB Try.prog E cx n47_19) (codeB Try.prog E cx n47_22) (lk st.σ 20) st := GE.cond_step (c := .tmp 20) (by kernel_rfl)
theorem n47_16s : codeB Try.prog E cx n47_16 st = thenS (codeB Try.prog E cx n47_17 st) (codeB Try.prog E cx n47_18) := GE.seq_step (by kernel_rfl)
theorem n47_15s : codeB Try.prog E cx n47_15 st = blockS 0 (codeB Try.prog E cx n47_16 st) st := GE.block_step (by kernel_rfl)
theorem n47_30s : codeB Try.prog E ⟨f, 48, b, ro⟩ n47_30 st = plainS (runOps Try.prog E b q47_30 (ops [true, true, true, true, false] Try.f47) st) := GE.region_step (id := 9) (GE.reg_of (by kernel_rfl)) (by kernel_rfl)
theorem n47_31s : codeB Try.prog LL ⟨47, 48, b, ro⟩ n47_31 st = normS b ⟨[8], []⟩ .ret st := GE.ret_step (by kernel_rfl) (by kernel_rfl)
theorem n47_29s : codeB Try.prog E cx n47_29 st = thenS (codeB Try.prog E cx n47_30 st) (codeB Try.prog E cx n47_31) := GE.seq_step (by kernel_rfl)
theorem n47_14s : codeB Try.prog E cx n47_14 st = thenS (codeB Try.prog E cx n47_15 st) (codeB Try.prog E cx n47_29) := GE.seq_step (by kernel_rfl)
theorem n47_12s : codeB Try.prog E cx n47_12 st = thenS (codeB Try.prog E cx n47_13 st) (codeB Try.prog E cx n47_14) := GE.seq_step (by kernel_rfl)
theorem n47_2s : codeB Try.prog E cx n47_2 st = thenS (codeB Try.prog E cx n47_3 st) (codeB Try.prog E cx n47_12) := GE.seq_step (by kernel_rfl)
theorem n47_0s : codeB Try.prog E cx n47_0 st = thenS (codeB Try.prog E cx n47_1 st) (codeB Try.prog E cx n47_2) := GE.seq_step (by kernel_rfl)
noncomputable def n51_0 : Code := bodyOf Try.f51
noncomputable def n51_1 : Code := cl n51_0
noncomputable def q51_1 : List Oper := opsOf n51_1
noncomputable def n51_2 : Code := cr n51_0
noncomputable def n51_3 : Code := cl n51_2
noncomputable def q51_3 : List Oper := opsOf n51_3
noncomputable def n51_4 : Code := cr n51_2
noncomputable def n51_5 : Code := cl n51_4
noncomputable def n51_6 : Code := cl n51_5
noncomputable def q51_6 : List Oper := opsOf n51_6
noncomputable def n51_7 : Code := cr n51_5
noncomputable def n51_8 : Code := cl n51_7
noncomputable def n51_9 : Code := cl n51_8
noncomputable def n51_10 : Code := cl n51_9
noncomputable def q51_10 : List Oper := opsOf n51_10
noncomputable def n51_11 : Code := cr n51_9
noncomputable def n51_12 : Code := cl n51_11
noncomputable def n51_13 : Code := cl n51_12
noncomputable def n51_14 : Code := cr n51_12
noncomputable def n51_15 : Code := cr n51_11
noncomputable def n51_16 : Code := cl n51_15
noncomputable def n51_17 : Code := cl n51_16
noncomputable def n51_18 : Code := cl n51_17
noncomputable def q51_18 : List Oper := opsOf n51_18
noncomputable def n51_19 : Code := cr n51_17
noncomputable def n51_20 : Code := cl n51_19
noncomputable def q51_20 : List Oper := opsOf n51_20
noncomputable def n51_21 : Code := cr n51_19
noncomputable def n51_22 : Code := cl n51_21
noncomputable def q51_22 : List Oper := opsOf n51_22
noncomputable def n51_23 : Code := cr n51_21
noncomputable def n51_24 : Code := cl n51_23
noncomputable def n51_25 : Code := cl n51_24
noncomputable def q51_25 : List Oper := opsOf n51_25
noncomputable def n51_26 : Code := cr n51_24
noncomputable def n51_27 : Code := cr n51_23
noncomputable def n51_28 : Code := cr n51_15
noncomputable def q51_28 : List Oper := opsOf n51_28
noncomputable def n51_29 : Code := cr n51_4
noncomputable def n51_30 : Code := cl n51_29
noncomputable def q51_30 : List Oper := opsOf n51_30
noncomputable def n51_31 : Code := cr n51_29
theorem body51 : Try.f51.body = some n51_0 := by kernel_rfl
theorem run51 (E : Ev) (args : List Value) (h : List Blk) (hl : args.length ≤ 29) : runB Try.prog E 51 args h = endS Try.prog [.tmp 4] h.length (codeB Try.prog E ⟨51, 29, h.length, none⟩ n51_0 ⟨enumT 0 args, h, []⟩) := GE.run_step Try.func51 body51 (by kernel_rfl) (by decide) (by kernel_rfl) hl
theorem n51_1s : codeB Try.prog E ⟨f, 29, b, ro⟩ n51_1 st = plainS (runOps Try.prog E b q51_1 (ops [false] Try.f51) st) := GE.region_step (id := 0) (GE.reg_of (by kernel_rfl)) (by kernel_rfl)
theorem n51_3s : codeB Try.prog E ⟨f, 29, b, ro⟩ n51_3 st = plainS (runOps Try.prog E b q51_3 (ops [true, false] Try.f51) st) := GE.region_step (id := 1) (GE.reg_of (by kernel_rfl)) (by kernel_rfl)
theorem n51_6s : codeB Try.prog E ⟨f, 29, b, ro⟩ n51_6 st = plainS (runOps Try.prog E b q51_6 (ops [true, true, false, false] Try.f51) st) := GE.region_step (id := 2) (GE.reg_of (by kernel_rfl)) (by kernel_rfl)
theorem n51_10s : codeB Try.prog E ⟨f, 29, b, ro⟩ n51_10 st = plainS (runOps Try.prog E b q51_10 (ops [true, true, false, true, false, false, false] Try.f51) st) := GE.region_step (id := 3) (GE.reg_of (by kernel_rfl)) (by kernel_rfl)
theorem n51_13s : codeB Try.prog E cx n51_13 st = some (.normal, st) := GE.skip_step (by kernel_rfl)
theorem n51_14s : codeB Try.prog LL ⟨51, 29, b, ro⟩ n51_14 st = normS b ⟨[], []⟩ (.exit 0) st := GE.exit_step (by kernel_rfl) (by kernel_rfl)
theorem n51_12s : codeB Try.prog E cx n51_12 st = condS (codeB Try.prog E cx n51_13) (codeB Try.prog E cx n51_14) (lk st.σ 11) st := GE.cond_step (c := .tmp 11) (by kernel_rfl)
theorem n51_18s : codeB Try.prog E ⟨f, 29, b, ro⟩ n51_18 st = plainS (runOps Try.prog E b q51_18 (ops [true, true, false, true, false, false, true, true, false, false, false] Try.f51) st) := GE.region_step (id := 4) (GE.reg_of (by kernel_rfl)) (by kernel_rfl)
theorem n51_20s : codeB Try.prog E ⟨f, 29, b, ro⟩ n51_20 st = plainS (runOps Try.prog E b q51_20 (ops [true, true, false, true, false, false, true, true, false, false, true, false] Try.f51) st) := GE.region_step (id := 5) (GE.reg_of (by kernel_rfl)) (by kernel_rfl)
theorem n51_22s : codeB Try.prog E ⟨f, 29, b, ro⟩ n51_22 st = plainS (runOps Try.prog E b q51_22 (ops [true, true, false, true, false, false, true, true, false, false, true, true, false] Try.f51) st) := GE.region_step (id := 6) (GE.reg_of (by kernel_rfl)) (by kernel_rfl)
theorem n51_25s : codeB Try.prog E ⟨f, 29, b, ro⟩ n51_25 st = plainS (runOps Try.prog E b q51_25 (ops [true, true, false, true, false, false, true, true, false, false, true, true, true, false, false] Try.f51) st) := GE.region_step (id := 7) (GE.reg_of (by kernel_rfl)) (by kernel_rfl)
theorem n51_26s : codeB Try.prog LL ⟨51, 29, b, ro⟩ n51_26 st = normS b ⟨[4], []⟩ .ret st := GE.ret_step (by kernel_rfl) (by kernel_rfl)
theorem n51_24s : codeB Try.prog E cx n51_24 st = thenS (codeB Try.prog E cx n51_25 st) (codeB Try.prog E cx n51_26) := GE.seq_step (by kernel_rfl)
theorem n51_27s : codeB Try.prog E cx n51_27 st = some (.normal, st) := GE.skip_step (by kernel_rfl)
theorem n51_23s : codeB Try.prog E cx n51_23 st = condS (codeB Try.prog E cx n51_24) (codeB Try.prog E cx n51_27) (lk st.σ 27) st := GE.cond_step (c := .tmp 27) (by kernel_rfl)
theorem n51_21s : codeB Try.prog E cx n51_21 st = thenS (codeB Try.prog E cx n51_22 st) (codeB Try.prog E cx n51_23) := GE.seq_step (by kernel_rfl)
theorem n51_19s : codeB Try.prog E cx n51_19 st = thenS (codeB Try.prog E cx n51_20 st) (codeB Try.prog E cx n51_21) := GE.seq_step (by kernel_rfl)
theorem n51_17s : codeB Try.prog E cx n51_17 st = thenS (codeB Try.prog E cx n51_18 st) (codeB Try.prog E cx n51_19) := GE.seq_step (by kernel_rfl)
theorem n51_16s : codeB Try.prog E cx n51_16 st = blockS 1 (codeB Try.prog E cx n51_17 st) st := GE.block_step (by kernel_rfl)
theorem n51_28s : codeB Try.prog E ⟨f, 29, b, ro⟩ n51_28 st = plainS (runOps Try.prog E b q51_28 (ops [true, true, false, true, false, false, true, true, true] Try.f51) st) := GE.region_step (id := 8) (GE.reg_of (by kernel_rfl)) (by kernel_rfl)
theorem n51_15s : codeB Try.prog E cx n51_15 st = thenS (codeB Try.prog E cx n51_16 st) (codeB Try.prog E cx n51_28) := GE.seq_step (by kernel_rfl)
theorem n51_11s : codeB Try.prog E cx n51_11 st = thenS (codeB Try.prog E cx n51_12 st) (codeB Try.prog E cx n51_15) := GE.seq_step (by kernel_rfl)
theorem n51_9s : codeB Try.prog E cx n51_9 st = thenS (codeB Try.prog E cx n51_10 st) (codeB Try.prog E cx n51_11) := GE.seq_step (by kernel_rfl)
theorem n51_8k : LL.kp (⟨51, 29, b, ro⟩ : Cx).fn (4 * rid n51_9 + 3) = some ⟨[0, 5, 8, 9, 10], [⟨0, 0, 2, true⟩, ⟨8, 0, 1, true⟩]⟩ := by kernel_rfl
theorem n51_8s : codeB Try.prog LL ⟨51, 29, b, ro⟩ n51_8 st = headS b ⟨[0, 5, 8, 9, 10], [⟨0, 0, 2, true⟩, ⟨8, 0, 1, true⟩]⟩ st (lpB Try.prog LL ⟨51, 29, b, ro⟩ n51_8 n51_9) := GE.lpB_step (by kernel_rfl) (n51_8k b ro)
theorem n51_8g : LL.code ⟨51, 29, b, ro⟩ n51_8 st = headS b ⟨[0, 5, 8, 9, 10], [⟨0, 0, 2, true⟩, ⟨8, 0, 1, true⟩]⟩ st (lpB Try.prog LL ⟨51, 29, b, ro⟩ n51_8 n51_9) := GE.lpB_again (by kernel_rfl) (n51_8k b ro)
theorem n51_7s : codeB Try.prog E cx n51_7 st = blockS 0 (codeB Try.prog E cx n51_8 st) st := GE.block_step (by kernel_rfl)
theorem n51_5s : codeB Try.prog E cx n51_5 st = thenS (codeB Try.prog E cx n51_6 st) (codeB Try.prog E cx n51_7) := GE.seq_step (by kernel_rfl)
theorem n51_30s : codeB Try.prog E ⟨f, 29, b, ro⟩ n51_30 st = plainS (runOps Try.prog E b q51_30 (ops [true, true, true, false] Try.f51) st) := GE.region_step (id := 9) (GE.reg_of (by kernel_rfl)) (by kernel_rfl)
theorem n51_31s : codeB Try.prog LL ⟨51, 29, b, ro⟩ n51_31 st = normS b ⟨[4], []⟩ .ret st := GE.ret_step (by kernel_rfl) (by kernel_rfl)
theorem n51_29s : codeB Try.prog E cx n51_29 st = thenS (codeB Try.prog E cx n51_30 st) (codeB Try.prog E cx n51_31) := GE.seq_step (by kernel_rfl)
theorem n51_4s : codeB Try.prog E cx n51_4 st = thenS (codeB Try.prog E cx n51_5 st) (codeB Try.prog E cx n51_29) := GE.seq_step (by kernel_rfl)
theorem n51_2s : codeB Try.prog E cx n51_2 st = thenS (codeB Try.prog E cx n51_3 st) (codeB Try.prog E cx n51_4) := GE.seq_step (by kernel_rfl)
theorem n51_0s : codeB Try.prog E cx n51_0 st = thenS (codeB Try.prog E cx n51_1 st) (codeB Try.prog E cx n51_2) := GE.seq_step (by kernel_rfl)
noncomputable def n57_0 : Code := bodyOf Try.f57
noncomputable def n57_1 : Code := cl n57_0
noncomputable def q57_1 : List Oper := opsOf n57_1
noncomputable def n57_2 : Code := cr n57_0
noncomputable def n57_3 : Code := cl n57_2
noncomputable def q57_3 : List Oper := opsOf n57_3
noncomputable def n57_4 : Code := cr n57_2
theorem body57 : Try.f57.body = some n57_0 := by kernel_rfl
theorem run57 (E : Ev) (args : List Value) (h : List Blk) (hl : args.length ≤ 15) : runB Try.prog E 57 args h = endS Try.prog [.tmp 6] h.length (codeB Try.prog E ⟨57, 15, h.length, none⟩ n57_0 ⟨enumT 0 args, h, []⟩) := GE.run_step Try.func57 body57 (by kernel_rfl) (by decide) (by kernel_rfl) hl
theorem n57_1s : codeB Try.prog E ⟨f, 15, b, ro⟩ n57_1 st = plainS (runOps Try.prog E b q57_1 (ops [false] Try.f57) st) := GE.region_step (id := 0) (GE.reg_of (by kernel_rfl)) (by kernel_rfl)
theorem q57_3g3 : gd q57_3 3 = some 10 := by kernel_rfl
theorem n57_3s : codeB Try.prog E ⟨f, 15, b, ro⟩ n57_3 st = plainS (runOps Try.prog E b q57_3 (ops [true, false] Try.f57) st) := GE.region_step (id := 1) (GE.reg_of (by kernel_rfl)) (by kernel_rfl)
theorem n57_4s : codeB Try.prog LL ⟨57, 15, b, ro⟩ n57_4 st = normS b ⟨[6], []⟩ .ret st := GE.ret_step (by kernel_rfl) (by kernel_rfl)
theorem n57_2s : codeB Try.prog E cx n57_2 st = thenS (codeB Try.prog E cx n57_3 st) (codeB Try.prog E cx n57_4) := GE.seq_step (by kernel_rfl)
theorem n57_0s : codeB Try.prog E cx n57_0 st = thenS (codeB Try.prog E cx n57_1 st) (codeB Try.prog E cx n57_2) := GE.seq_step (by kernel_rfl)
noncomputable def n72_0 : Code := bodyOf Try.f72
noncomputable def n72_1 : Code := cl n72_0
noncomputable def q72_1 : List Oper := opsOf n72_1
noncomputable def n72_2 : Code := cr n72_0
noncomputable def n72_3 : Code := cl n72_2
noncomputable def n72_4 : Code := cl n72_3
noncomputable def q72_4 : List Oper := opsOf n72_4
noncomputable def n72_5 : Code := cr n72_3
noncomputable def n72_6 : Code := cl n72_5
noncomputable def q72_6 : List Oper := opsOf n72_6
noncomputable def n72_7 : Code := cr n72_5
noncomputable def n72_8 : Code := cl n72_7
noncomputable def n72_9 : Code := cl n72_8
noncomputable def q72_9 : List Oper := opsOf n72_9
noncomputable def n72_10 : Code := cr n72_8
noncomputable def n72_11 : Code := cr n72_7
noncomputable def n72_12 : Code := cr n72_2
noncomputable def n72_13 : Code := cl n72_12
noncomputable def n72_14 : Code := cl n72_13
noncomputable def q72_14 : List Oper := opsOf n72_14
noncomputable def n72_15 : Code := cr n72_13
noncomputable def n72_16 : Code := cl n72_15
noncomputable def n72_17 : Code := cl n72_16
noncomputable def q72_17 : List Oper := opsOf n72_17
noncomputable def n72_18 : Code := cr n72_16
noncomputable def n72_19 : Code := cr n72_15
noncomputable def n72_20 : Code := cr n72_12
noncomputable def n72_21 : Code := cl n72_20
noncomputable def q72_21 : List Oper := opsOf n72_21
noncomputable def n72_22 : Code := cr n72_20
noncomputable def n72_23 : Code := cl n72_22
noncomputable def n72_24 : Code := cl n72_23
noncomputable def q72_24 : List Oper := opsOf n72_24
noncomputable def n72_25 : Code := cr n72_23
noncomputable def n72_26 : Code := cl n72_25
noncomputable def n72_27 : Code := cl n72_26
noncomputable def n72_28 : Code := cl n72_27
noncomputable def q72_28 : List Oper := opsOf n72_28
noncomputable def n72_29 : Code := cr n72_27
noncomputable def n72_30 : Code := cl n72_29
noncomputable def n72_31 : Code := cl n72_30
noncomputable def n72_32 : Code := cr n72_30
noncomputable def n72_33 : Code := cr n72_29
noncomputable def n72_34 : Code := cl n72_33
noncomputable def n72_35 : Code := cl n72_34
noncomputable def n72_36 : Code := cl n72_35
noncomputable def q72_36 : List Oper := opsOf n72_36
noncomputable def n72_37 : Code := cr n72_35
noncomputable def n72_38 : Code := cl n72_37
noncomputable def n72_39 : Code := cl n72_38
noncomputable def n72_40 : Code := cl n72_39
noncomputable def q72_40 : List Oper := opsOf n72_40
noncomputable def n72_41 : Code := cr n72_39
noncomputable def n72_42 : Code := cl n72_41
noncomputable def n72_43 : Code := cl n72_42
noncomputable def q72_43 : List Oper := opsOf n72_43
noncomputable def n72_44 : Code := cr n72_42
noncomputable def n72_45 : Code := cr n72_41
noncomputable def n72_46 : Code := cl n72_45
noncomputable def q72_46 : List Oper := opsOf n72_46
noncomputable def n72_47 : Code := cr n72_45
noncomputable def n72_48 : Code := cl n72_47
noncomputable def n72_49 : Code := cl n72_48
noncomputable def q72_49 : List Oper := opsOf n72_49
noncomputable def n72_50 : Code := cr n72_48
noncomputable def n72_51 : Code := cr n72_47
noncomputable def n72_52 : Code := cr n72_37
noncomputable def q72_52 : List Oper := opsOf n72_52
noncomputable def n72_53 : Code := cr n72_33
noncomputable def q72_53 : List Oper := opsOf n72_53
noncomputable def n72_54 : Code := cr n72_22
noncomputable def n72_55 : Code := cl n72_54
noncomputable def q72_55 : List Oper := opsOf n72_55
noncomputable def n72_56 : Code := cr n72_54
theorem body72 : Try.f72.body = some n72_0 := by kernel_rfl
theorem run72 (E : Ev) (args : List Value) (h : List Blk) (hl : args.length ≤ 43) : runB Try.prog E 72 args h = endS Try.prog [.tmp 4] h.length (codeB Try.prog E ⟨72, 43, h.length, none⟩ n72_0 ⟨enumT 0 args, h, []⟩) := GE.run_step Try.func72 body72 (by kernel_rfl) (by decide) (by kernel_rfl) hl
theorem n72_1s : codeB Try.prog E ⟨f, 43, b, ro⟩ n72_1 st = plainS (runOps Try.prog E b q72_1 (ops [false] Try.f72) st) := GE.region_step (id := 0) (GE.reg_of (by kernel_rfl)) (by kernel_rfl)
theorem n72_4s : codeB Try.prog E ⟨f, 43, b, ro⟩ n72_4 st = plainS (runOps Try.prog E b q72_4 (ops [true, false, false] Try.f72) st) := GE.region_step (id := 1) (GE.reg_of (by kernel_rfl)) (by kernel_rfl)
theorem n72_6s : codeB Try.prog E ⟨f, 43, b, ro⟩ n72_6 st = plainS (runOps Try.prog E b q72_6 (ops [true, false, true, false] Try.f72) st) := GE.region_step (id := 2) (GE.reg_of (by kernel_rfl)) (by kernel_rfl)
theorem n72_9s : codeB Try.prog E ⟨f, 43, b, ro⟩ n72_9 st = plainS (runOps Try.prog E b q72_9 (ops [true, false, true, true, false, false] Try.f72) st) := GE.region_step (id := 3) (GE.reg_of (by kernel_rfl)) (by kernel_rfl)
theorem n72_10s : codeB Try.prog LL ⟨72, 43, b, ro⟩ n72_10 st = normS b ⟨[4], []⟩ .ret st := GE.ret_step (by kernel_rfl) (by kernel_rfl)
theorem n72_8s : codeB Try.prog E cx n72_8 st = thenS (codeB Try.prog E cx n72_9 st) (codeB Try.prog E cx n72_10) := GE.seq_step (by kernel_rfl)
theorem n72_11s : codeB Try.prog E cx n72_11 st = some (.normal, st) := GE.skip_step (by kernel_rfl)
theorem n72_7s : codeB Try.prog E cx n72_7 st = condS (codeB Try.prog E cx n72_8) (codeB Try.prog E cx n72_11) (lk st.σ 12) st := GE.cond_step (c := .tmp 12) (by kernel_rfl)
theorem n72_5s : codeB Try.prog E cx n72_5 st = thenS (codeB Try.prog E cx n72_6 st) (codeB Try.prog E cx n72_7) := GE.seq_step (by kernel_rfl)
theorem n72_3s : codeB Try.prog E cx n72_3 st = thenS (codeB Try.prog E cx n72_4 st) (codeB Try.prog E cx n72_5) := GE.seq_step (by kernel_rfl)
theorem n72_14s : codeB Try.prog E ⟨f, 43, b, ro⟩ n72_14 st = plainS (runOps Try.prog E b q72_14 (ops [true, true, false, false] Try.f72) st) := GE.region_step (id := 4) (GE.reg_of (by kernel_rfl)) (by kernel_rfl)
theorem n72_17s : codeB Try.prog E ⟨f, 43, b, ro⟩ n72_17 st = plainS (runOps Try.prog E b q72_17 (ops [true, true, false, true, false, false] Try.f72) st) := GE.region_step (id := 5) (GE.reg_of (by kernel_rfl)) (by kernel_rfl)
theorem n72_18s : codeB Try.prog LL ⟨72, 43, b, ro⟩ n72_18 st = normS b ⟨[4], []⟩ .ret st := GE.ret_step (by kernel_rfl) (by kernel_rfl)
theorem n72_16s : codeB Try.prog E cx n72_16 st = thenS (codeB Try.prog E cx n72_17 st) (codeB Try.prog E cx n72_18) := GE.seq_step (by kernel_rfl)
theorem n72_19s : codeB Try.prog E cx n72_19 st = some (.normal, st) := GE.skip_step (by kernel_rfl)
theorem n72_15s : codeB Try.prog E cx n72_15 st = condS (codeB Try.prog E cx n72_16) (codeB Try.prog E cx n72_19) (lk st.σ 18) st := GE.cond_step (c := .tmp 18) (by kernel_rfl)
theorem n72_13s : codeB Try.prog E cx n72_13 st = thenS (codeB Try.prog E cx n72_14 st) (codeB Try.prog E cx n72_15) := GE.seq_step (by kernel_rfl)
theorem n72_21s : codeB Try.prog E ⟨f, 43, b, ro⟩ n72_21 st = plainS (runOps Try.prog E b q72_21 (ops [true, true, true, false] Try.f72) st) := GE.region_step (id := 6) (GE.reg_of (by kernel_rfl)) (by kernel_rfl)
theorem n72_24s : codeB Try.prog E ⟨f, 43, b, ro⟩ n72_24 st = plainS (runOps Try.prog E b q72_24 (ops [true, true, true, true, false, false] Try.f72) st) := GE.region_step (id := 7) (GE.reg_of (by kernel_rfl)) (by kernel_rfl)
theorem n72_28s : codeB Try.prog E ⟨f, 43, b, ro⟩ n72_28 st = plainS (runOps Try.prog E b q72_28 (ops [true, true, true, true, false, true, false, false, false] Try.f72) st) := GE.region_step (id := 8) (GE.reg_of (by kernel_rfl)) (by kernel_rfl)
theorem n72_31s : codeB Try.prog E cx n72_31 st = some (.normal, st) := GE.skip_step (by kernel_rfl)
theorem n72_32s : codeB Try.prog LL ⟨72, 43, b, ro⟩ n72_32 st = normS b ⟨[], []⟩ (.exit 0) st := GE.exit_step (by kernel_rfl) (by kernel_rfl)
theorem n72_30s : codeB Try.prog E cx n72_30 st = condS (codeB Try.prog E cx n72_31) (codeB Try.prog E cx n72_32) (lk st.σ 22) st := GE.cond_step (c := .tmp 22) (by kernel_rfl)
theorem n72_36s : codeB Try.prog E ⟨f, 43, b, ro⟩ n72_36 st = plainS (runOps Try.prog E b q72_36 (ops [true, true, true, true, false, true, false, false, true, true, false, false, false] Try.f72) st) := GE.region_step (id := 9) (GE.reg_of (by kernel_rfl)) (by kernel_rfl)
theorem n72_40s : codeB Try.prog E ⟨f, 43, b, ro⟩ n72_40 st = plainS (runOps Try.prog E b q72_40 (ops [true, true, true, true, false, true, false, false, true, true, false, false, true, false, false, false] Try.f72) st) := GE.region_step (id := 10) (GE.reg_of (by kernel_rfl)) (by kernel_rfl)
theorem n72_43s : codeB Try.prog E ⟨f, 43, b, ro⟩ n72_43 st = plainS (runOps Try.prog E b q72_43 (ops [true, true, true, true, false, true, false, false, true, true, false, false, true, false, false, true, false, false] Try.f72) st) := GE.region_step (id := 11) (GE.reg_of (by kernel_rfl)) (by kernel_rfl)
theorem n72_44s : codeB Try.prog LL ⟨72, 43, b, ro⟩ n72_44 st = normS b ⟨[4], []⟩ .ret st := GE.ret_step (by kernel_rfl) (by kernel_rfl)
theorem n72_42s : codeB Try.prog E cx n72_42 st = thenS (codeB Try.prog E cx n72_43 st) (codeB Try.prog E cx n72_44) := GE.seq_step (by kernel_rfl)
theorem n72_46s : codeB Try.prog E ⟨f, 43, b, ro⟩ n72_46 st = plainS (runOps Try.prog E b q72_46 (ops [true, true, true, true, false, true, false, false, true, true, false, false, true, false, false, true, true, false] Try.f72) st) := GE.region_step (id := 12) (GE.reg_of (by kernel_rfl)) (by kernel_rfl)
theorem n72_49s : codeB Try.prog E ⟨f, 43, b, ro⟩ n72_49 st = plainS (runOps Try.prog E b q72_49 (ops [true, true, true, true, false, true, false, false, true, true, false, false, true, false, false, true, true, true, false, false] Try.f72) st) := GE.region_step (id := 13) (GE.reg_of (by kernel_rfl)) (by kernel_rfl)
theorem n72_50s : codeB Try.prog LL ⟨72, 43, b, ro⟩ n72_50 st = normS b ⟨[4], []⟩ .ret st := GE.ret_step (by kernel_rfl) (by kernel_rfl)
theorem n72_48s : codeB Try.prog E cx n72_48 st = thenS (codeB Try.prog E cx n72_49 st) (codeB Try.prog E cx n72_50) := GE.seq_step (by kernel_rfl)
theorem n72_51s : codeB Try.prog E cx n72_51 st = some (.normal, st) := GE.skip_step (by kernel_rfl)
theorem n72_47s : codeB Try.prog E cx n72_47 st = condS (codeB Try.prog E cx n72_48) (codeB Try.prog E cx n72_51) (lk st.σ 32) st := GE.cond_step (c := .tmp 32) (by kernel_rfl)
theorem n72_45s : codeB Try.prog E cx n72_45 st = thenS (codeB Try.prog E cx n72_46 st) (codeB Try.prog E cx n72_47) := GE.seq_step (by kernel_rfl)
theorem n72_41s : codeB Try.prog E cx n72_41 st = condS (codeB Try.prog E cx n72_42) (codeB Try.prog E cx n72_45) (lk st.σ 25) st := GE.cond_step (c := .tmp 25) (by kernel_rfl)
theorem n72_39s : codeB Try.prog E cx n72_39 st = thenS (codeB Try.prog E cx n72_40 st) (codeB Try.prog E cx n72_41) := GE.seq_step (by kernel_rfl)
theorem n72_38s : codeB Try.prog E cx n72_38 st = blockS 2 (codeB Try.prog E cx n72_39 st) st := GE.block_step (by kernel_rfl)
theorem n72_52s : codeB Try.prog E ⟨f, 43, b, ro⟩ n72_52 st = plainS (runOps Try.prog E b q72_52 (ops [true, true, true, true, false, true, false, false, true, true, false, false, true, true] Try.f72) st) := GE.region_step (id := 14) (GE.reg_of (by kernel_rfl)) (by kernel_rfl)
theorem n72_37s : codeB Try.prog E cx n72_37 st = thenS (codeB Try.prog E cx n72_38 st) (codeB Try.prog E cx n72_52) := GE.seq_step (by kernel_rfl)
theorem n72_35s : codeB Try.prog E cx n72_35 st = thenS (codeB Try.prog E cx n72_36 st) (codeB Try.prog E cx n72_37) := GE.seq_step (by kernel_rfl)
theorem n72_34s : codeB Try.prog E cx n72_34 st = blockS 1 (codeB Try.prog E cx n72_35 st) st := GE.block_step (by kernel_rfl)
theorem n72_53s : codeB Try.prog E ⟨f, 43, b, ro⟩ n72_53 st = plainS (runOps Try.prog E b q72_53 (ops [true, true, true, true, false, true, false, false, true, true, true] Try.f72) st) := GE.region_step (id := 15) (GE.reg_of (by kernel_rfl)) (by kernel_rfl)
theorem n72_33s : codeB Try.prog E cx n72_33 st = thenS (codeB Try.prog E cx n72_34 st) (codeB Try.prog E cx n72_53) := GE.seq_step (by kernel_rfl)
theorem n72_29s : codeB Try.prog E cx n72_29 st = thenS (codeB Try.prog E cx n72_30 st) (codeB Try.prog E cx n72_33) := GE.seq_step (by kernel_rfl)
theorem n72_27s : codeB Try.prog E cx n72_27 st = thenS (codeB Try.prog E cx n72_28 st) (codeB Try.prog E cx n72_29) := GE.seq_step (by kernel_rfl)
theorem n72_26k : LL.kp (⟨72, 43, b, ro⟩ : Cx).fn (4 * rid n72_27 + 3) = some ⟨[0, 6, 19, 20, 21], [⟨0, 0, 2, true⟩, ⟨19, 0, 1, true⟩]⟩ := by kernel_rfl
theorem n72_26s : codeB Try.prog LL ⟨72, 43, b, ro⟩ n72_26 st = headS b ⟨[0, 6, 19, 20, 21], [⟨0, 0, 2, true⟩, ⟨19, 0, 1, true⟩]⟩ st (lpB Try.prog LL ⟨72, 43, b, ro⟩ n72_26 n72_27) := GE.lpB_step (by kernel_rfl) (n72_26k b ro)
theorem n72_26g : LL.code ⟨72, 43, b, ro⟩ n72_26 st = headS b ⟨[0, 6, 19, 20, 21], [⟨0, 0, 2, true⟩, ⟨19, 0, 1, true⟩]⟩ st (lpB Try.prog LL ⟨72, 43, b, ro⟩ n72_26 n72_27) := GE.lpB_again (by kernel_rfl) (n72_26k b ro)
theorem n72_25s : codeB Try.prog E cx n72_25 st = blockS 0 (codeB Try.prog E cx n72_26 st) st := GE.block_step (by kernel_rfl)
theorem n72_23s : codeB Try.prog E cx n72_23 st = thenS (codeB Try.prog E cx n72_24 st) (codeB Try.prog E cx n72_25) := GE.seq_step (by kernel_rfl)
theorem n72_55s : codeB Try.prog E ⟨f, 43, b, ro⟩ n72_55 st = plainS (runOps Try.prog E b q72_55 (ops [true, true, true, true, true, false] Try.f72) st) := GE.region_step (id := 16) (GE.reg_of (by kernel_rfl)) (by kernel_rfl)
theorem n72_56s : codeB Try.prog LL ⟨72, 43, b, ro⟩ n72_56 st = normS b ⟨[4], []⟩ .ret st := GE.ret_step (by kernel_rfl) (by kernel_rfl)
theorem n72_54s : codeB Try.prog E cx n72_54 st = thenS (codeB Try.prog E cx n72_55 st) (codeB Try.prog E cx n72_56) := GE.seq_step (by kernel_rfl)
theorem n72_22s : codeB Try.prog E cx n72_22 st = thenS (codeB Try.prog E cx n72_23 st) (codeB Try.prog E cx n72_54) := GE.seq_step (by kernel_rfl)
theorem n72_20s : codeB Try.prog E cx n72_20 st = thenS (codeB Try.prog E cx n72_21 st) (codeB Try.prog E cx n72_22) := GE.seq_step (by kernel_rfl)
theorem n72_12s : codeB Try.prog E cx n72_12 st = thenS (codeB Try.prog E cx n72_13 st) (codeB Try.prog E cx n72_20) := GE.seq_step (by kernel_rfl)
theorem n72_2s : codeB Try.prog E cx n72_2 st = thenS (codeB Try.prog E cx n72_3 st) (codeB Try.prog E cx n72_12) := GE.seq_step (by kernel_rfl)
theorem n72_0s : codeB Try.prog E cx n72_0 st = thenS (codeB Try.prog E cx n72_1 st) (codeB Try.prog E cx n72_2) := GE.seq_step (by kernel_rfl)
noncomputable def n73_0 : Code := bodyOf Try.f73
noncomputable def n73_1 : Code := cl n73_0
noncomputable def q73_1 : List Oper := opsOf n73_1
noncomputable def n73_2 : Code := cr n73_0
noncomputable def n73_3 : Code := cl n73_2
noncomputable def n73_4 : Code := cl n73_3
noncomputable def q73_4 : List Oper := opsOf n73_4
noncomputable def n73_5 : Code := cr n73_3
noncomputable def n73_6 : Code := cl n73_5
noncomputable def n73_7 : Code := cl n73_6
noncomputable def n73_8 : Code := cl n73_7
noncomputable def q73_8 : List Oper := opsOf n73_8
noncomputable def n73_9 : Code := cr n73_7
noncomputable def n73_10 : Code := cl n73_9
noncomputable def n73_11 : Code := cl n73_10
noncomputable def n73_12 : Code := cr n73_10
noncomputable def n73_13 : Code := cr n73_9
noncomputable def n73_14 : Code := cl n73_13
noncomputable def n73_15 : Code := cl n73_14
noncomputable def n73_16 : Code := cl n73_15
noncomputable def q73_16 : List Oper := opsOf n73_16
noncomputable def n73_17 : Code := cr n73_15
noncomputable def n73_18 : Code := cl n73_17
noncomputable def q73_18 : List Oper := opsOf n73_18
noncomputable def n73_19 : Code := cr n73_17
noncomputable def n73_20 : Code := cl n73_19
noncomputable def n73_21 : Code := cl n73_20
noncomputable def n73_22 : Code := cl n73_21
noncomputable def n73_23 : Code := cl n73_22
noncomputable def q73_23 : List Oper := opsOf n73_23
noncomputable def n73_24 : Code := cr n73_22
noncomputable def n73_25 : Code := cl n73_24
noncomputable def n73_26 : Code := cr n73_24
noncomputable def n73_27 : Code := cr n73_21
noncomputable def n73_28 : Code := cl n73_27
noncomputable def n73_29 : Code := cl n73_28
noncomputable def n73_30 : Code := cl n73_29
noncomputable def q73_30 : List Oper := opsOf n73_30
noncomputable def n73_31 : Code := cr n73_29
noncomputable def n73_32 : Code := cl n73_31
noncomputable def n73_33 : Code := cl n73_32
noncomputable def q73_33 : List Oper := opsOf n73_33
noncomputable def n73_34 : Code := cr n73_32
noncomputable def n73_35 : Code := cr n73_31
noncomputable def n73_36 : Code := cr n73_27
noncomputable def q73_36 : List Oper := opsOf n73_36
noncomputable def n73_37 : Code := cr n73_13
noncomputable def q73_37 : List Oper := opsOf n73_37
noncomputable def n73_38 : Code := cr n73_2
noncomputable def n73_39 : Code := cl n73_38
noncomputable def q73_39 : List Oper := opsOf n73_39
noncomputable def n73_40 : Code := cr n73_38
theorem body73 : Try.f73.body = some n73_0 := by kernel_rfl
theorem run73 (E : Ev) (args : List Value) (h : List Blk) (hl : args.length ≤ 35) : runB Try.prog E 73 args h = endS Try.prog [.tmp 4, .tmp 5, .tmp 6] h.length (codeB Try.prog E ⟨73, 35, h.length, none⟩ n73_0 ⟨enumT 0 args, h, []⟩) := GE.run_step Try.func73 body73 (by kernel_rfl) (by decide) (by kernel_rfl) hl
theorem n73_1s : codeB Try.prog E ⟨f, 35, b, ro⟩ n73_1 st = plainS (runOps Try.prog E b q73_1 (ops [false] Try.f73) st) := GE.region_step (id := 0) (GE.reg_of (by kernel_rfl)) (by kernel_rfl)
theorem n73_4s : codeB Try.prog E ⟨f, 35, b, ro⟩ n73_4 st = plainS (runOps Try.prog E b q73_4 (ops [true, false, false] Try.f73) st) := GE.region_step (id := 1) (GE.reg_of (by kernel_rfl)) (by kernel_rfl)
theorem n73_8s : codeB Try.prog E ⟨f, 35, b, ro⟩ n73_8 st = plainS (runOps Try.prog E b q73_8 (ops [true, false, true, false, false, false] Try.f73) st) := GE.region_step (id := 2) (GE.reg_of (by kernel_rfl)) (by kernel_rfl)
theorem n73_11s : codeB Try.prog E cx n73_11 st = some (.normal, st) := GE.skip_step (by kernel_rfl)
theorem n73_12s : codeB Try.prog LL ⟨73, 35, b, ro⟩ n73_12 st = normS b ⟨[], []⟩ (.exit 0) st := GE.exit_step (by kernel_rfl) (by kernel_rfl)
theorem n73_10s : codeB Try.prog E cx n73_10 st = condS (codeB Try.prog E cx n73_11) (codeB Try.prog E cx n73_12) (lk st.σ 12) st := GE.cond_step (c := .tmp 12) (by kernel_rfl)
theorem n73_16s : codeB Try.prog E ⟨f, 35, b, ro⟩ n73_16 st = plainS (runOps Try.prog E b q73_16 (ops [true, false, true, false, false, true, true, false, false, false] Try.f73) st) := GE.region_step (id := 3) (GE.reg_of (by kernel_rfl)) (by kernel_rfl)
theorem n73_18s : codeB Try.prog E ⟨f, 35, b, ro⟩ n73_18 st = plainS (runOps Try.prog E b q73_18 (ops [true, false, true, false, false, true, true, false, false, true, false] Try.f73) st) := GE.region_step (id := 4) (GE.reg_of (by kernel_rfl)) (by kernel_rfl)
theorem n73_23s : codeB Try.prog E ⟨f, 35, b, ro⟩ n73_23 st = plainS (runOps Try.prog E b q73_23 (ops [true, false, true, false, false, true, true, false, false, true, true, false, false, false, false] Try.f73) st) := GE.region_step (id := 5) (GE.reg_of (by kernel_rfl)) (by kernel_rfl)
theorem n73_25s : codeB Try.prog E cx n73_25 st = some (.normal, st) := GE.skip_step (by kernel_rfl)
theorem n73_26s : codeB Try.prog LL ⟨73, 35, b, ro⟩ n73_26 st = normS b ⟨[0, 1, 10, 11], [⟨0, 0, 2, true⟩, ⟨1, 0, 1, true⟩]⟩ (.exit 2) st := GE.exit_step (by kernel_rfl) (by kernel_rfl)
theorem n73_24s : codeB Try.prog E cx n73_24 st = condS (codeB Try.prog E cx n73_25) (codeB Try.prog E cx n73_26) (lk st.σ 19) st := GE.cond_step (c := .tmp 19) (by kernel_rfl)
theorem n73_22s : codeB Try.prog E cx n73_22 st = thenS (codeB Try.prog E cx n73_23 st) (codeB Try.prog E cx n73_24) := GE.seq_step (by kernel_rfl)
theorem n73_30s : codeB Try.prog E ⟨f, 35, b, ro⟩ n73_30 st = drawS [0, 0, 0, 6, 14, 0, 0, 96, 224, 511] (runOpsF Try.prog E b q73_30 (ops [true, false, true, false, false, true, true, false, false, true, true, false, false, true, false, false, false] Try.f73) st) := GE.draw_step (id := 7) (GE.reg_of (by kernel_rfl)) (by kernel_rfl) (by kernel_rfl) (by kernel_rfl)
theorem n73_33s : codeB Try.prog E ⟨f, 35, b, ro⟩ n73_33 st = plainS (runOps Try.prog E b q73_33 (ops [true, false, true, false, false, true, true, false, false, true, true, false, false, true, false, false, true, false, false] Try.f73) st) := GE.region_step (id := 8) (GE.reg_of (by kernel_rfl)) (by kernel_rfl)
theorem n73_34s : codeB Try.prog LL ⟨73, 35, b, ro⟩ n73_34 st = normS b ⟨[4, 5, 6], []⟩ .ret st := GE.ret_step (by kernel_rfl) (by kernel_rfl)
theorem n73_32s : codeB Try.prog E cx n73_32 st = thenS (codeB Try.prog E cx n73_33 st) (codeB Try.prog E cx n73_34) := GE.seq_step (by kernel_rfl)
theorem n73_35s : codeB Try.prog E cx n73_35 st = some (.normal, st) := GE.skip_step (by kernel_rfl)
theorem n73_31s : codeB Try.prog E cx n73_31 st = condS (codeB Try.prog E cx n73_32) (codeB Try.prog E cx n73_35) (lk st.σ 31) st := GE.cond_step (c := .tmp 31) (by kernel_rfl)
theorem n73_29s : codeB Try.prog E cx n73_29 st = thenS (codeB Try.prog E cx n73_30 st) (codeB Try.prog E cx n73_31) := GE.seq_step (by kernel_rfl)
theorem n73_28s : codeB Try.prog E cx n73_28 st = blockS 3 (codeB Try.prog E cx n73_29 st) st := GE.block_step (by kernel_rfl)
theorem n73_36s : codeB Try.prog E ⟨f, 35, b, ro⟩ n73_36 st = plainS (runOps Try.prog E b q73_36 (ops [true, false, true, false, false, true, true, false, false, true, true, false, false, true, true] Try.f73) st) := GE.region_step (id := 6) (GE.reg_of (by kernel_rfl)) (by kernel_rfl)
theorem n73_27s : codeB Try.prog E cx n73_27 st = thenS (codeB Try.prog E cx n73_28 st) (codeB Try.prog E cx n73_36) := GE.seq_step (by kernel_rfl)
theorem n73_21s : codeB Try.prog E cx n73_21 st = thenS (codeB Try.prog E cx n73_22 st) (codeB Try.prog E cx n73_27) := GE.seq_step (by kernel_rfl)
theorem n73_20k : LL.kp (⟨73, 35, b, ro⟩ : Cx).fn (4 * rid n73_21 + 3) = some ⟨[7, 8, 0, 1, 10, 11], [⟨0, 0, 2, true⟩, ⟨1, 0, 1, true⟩]⟩ := by kernel_rfl
theorem n73_20s : codeB Try.prog LL ⟨73, 35, b, ro⟩ n73_20 st = headS b ⟨[7, 8, 0, 1, 10, 11], [⟨0, 0, 2, true⟩, ⟨1, 0, 1, true⟩]⟩ st (lpB Try.prog LL ⟨73, 35, b, ro⟩ n73_20 n73_21) := GE.lpB_step (by kernel_rfl) (n73_20k b ro)
theorem n73_20g : LL.code ⟨73, 35, b, ro⟩ n73_20 st = headS b ⟨[7, 8, 0, 1, 10, 11], [⟨0, 0, 2, true⟩, ⟨1, 0, 1, true⟩]⟩ st (lpB Try.prog LL ⟨73, 35, b, ro⟩ n73_20 n73_21) := GE.lpB_again (by kernel_rfl) (n73_20k b ro)
theorem n73_19s : codeB Try.prog E cx n73_19 st = blockS 2 (codeB Try.prog E cx n73_20 st) st := GE.block_step (by kernel_rfl)
theorem n73_17s : codeB Try.prog E cx n73_17 st = thenS (codeB Try.prog E cx n73_18 st) (codeB Try.prog E cx n73_19) := GE.seq_step (by kernel_rfl)
theorem n73_15s : codeB Try.prog E cx n73_15 st = thenS (codeB Try.prog E cx n73_16 st) (codeB Try.prog E cx n73_17) := GE.seq_step (by kernel_rfl)
theorem n73_14s : codeB Try.prog E cx n73_14 st = blockS 1 (codeB Try.prog E cx n73_15 st) st := GE.block_step (by kernel_rfl)
theorem n73_37s : codeB Try.prog E ⟨f, 35, b, ro⟩ n73_37 st = plainS (runOps Try.prog E b q73_37 (ops [true, false, true, false, false, true, true, true] Try.f73) st) := GE.region_step (id := 9) (GE.reg_of (by kernel_rfl)) (by kernel_rfl)
theorem n73_13s : codeB Try.prog E cx n73_13 st = thenS (codeB Try.prog E cx n73_14 st) (codeB Try.prog E cx n73_37) := GE.seq_step (by kernel_rfl)
theorem n73_9s : codeB Try.prog E cx n73_9 st = thenS (codeB Try.prog E cx n73_10 st) (codeB Try.prog E cx n73_13) := GE.seq_step (by kernel_rfl)
theorem n73_7s : codeB Try.prog E cx n73_7 st = thenS (codeB Try.prog E cx n73_8 st) (codeB Try.prog E cx n73_9) := GE.seq_step (by kernel_rfl)
theorem n73_6k : LL.kp (⟨73, 35, b, ro⟩ : Cx).fn (4 * rid n73_7 + 3) = some ⟨[0, 1, 10, 11], [⟨0, 0, 2, true⟩, ⟨1, 0, 1, true⟩]⟩ := by kernel_rfl
theorem n73_6s : codeB Try.prog LL ⟨73, 35, b, ro⟩ n73_6 st = headS b ⟨[0, 1, 10, 11], [⟨0, 0, 2, true⟩, ⟨1, 0, 1, true⟩]⟩ st (lpB Try.prog LL ⟨73, 35, b, ro⟩ n73_6 n73_7) := GE.lpB_step (by kernel_rfl) (n73_6k b ro)
theorem n73_6g : LL.code ⟨73, 35, b, ro⟩ n73_6 st = headS b ⟨[0, 1, 10, 11], [⟨0, 0, 2, true⟩, ⟨1, 0, 1, true⟩]⟩ st (lpB Try.prog LL ⟨73, 35, b, ro⟩ n73_6 n73_7) := GE.lpB_again (by kernel_rfl) (n73_6k b ro)
theorem n73_5s : codeB Try.prog E cx n73_5 st = blockS 0 (codeB Try.prog E cx n73_6 st) st := GE.block_step (by kernel_rfl)
theorem n73_3s : codeB Try.prog E cx n73_3 st = thenS (codeB Try.prog E cx n73_4 st) (codeB Try.prog E cx n73_5) := GE.seq_step (by kernel_rfl)
theorem n73_39s : codeB Try.prog E ⟨f, 35, b, ro⟩ n73_39 st = plainS (runOps Try.prog E b q73_39 (ops [true, true, false] Try.f73) st) := GE.region_step (id := 10) (GE.reg_of (by kernel_rfl)) (by kernel_rfl)
theorem n73_40s : codeB Try.prog LL ⟨73, 35, b, ro⟩ n73_40 st = normS b ⟨[4, 5, 6], []⟩ .ret st := GE.ret_step (by kernel_rfl) (by kernel_rfl)
theorem n73_38s : codeB Try.prog E cx n73_38 st = thenS (codeB Try.prog E cx n73_39 st) (codeB Try.prog E cx n73_40) := GE.seq_step (by kernel_rfl)
theorem n73_2s : codeB Try.prog E cx n73_2 st = thenS (codeB Try.prog E cx n73_3 st) (codeB Try.prog E cx n73_38) := GE.seq_step (by kernel_rfl)
theorem n73_0s : codeB Try.prog E cx n73_0 st = thenS (codeB Try.prog E cx n73_1 st) (codeB Try.prog E cx n73_2) := GE.seq_step (by kernel_rfl)
noncomputable def n74_0 : Code := bodyOf Try.f74
noncomputable def n74_1 : Code := cl n74_0
noncomputable def q74_1 : List Oper := opsOf n74_1
noncomputable def n74_2 : Code := cr n74_0
noncomputable def n74_3 : Code := cl n74_2
noncomputable def q74_3 : List Oper := opsOf n74_3
noncomputable def n74_4 : Code := cr n74_2
theorem body74 : Try.f74.body = some n74_0 := by kernel_rfl
theorem run74 (E : Ev) (args : List Value) (h : List Blk) (hl : args.length ≤ 9) : runB Try.prog E 74 args h = endS Try.prog [.tmp 4] h.length (codeB Try.prog E ⟨74, 9, h.length, none⟩ n74_0 ⟨enumT 0 args, h, []⟩) := GE.run_step Try.func74 body74 (by kernel_rfl) (by decide) (by kernel_rfl) hl
theorem n74_1s : codeB Try.prog E ⟨f, 9, b, ro⟩ n74_1 st = plainS (runOps Try.prog E b q74_1 (ops [false] Try.f74) st) := GE.region_step (id := 0) (GE.reg_of (by kernel_rfl)) (by kernel_rfl)
theorem n74_3s : codeB Try.prog E ⟨f, 9, b, ro⟩ n74_3 st = plainS (runOps Try.prog E b q74_3 (ops [true, false] Try.f74) st) := GE.region_step (id := 1) (GE.reg_of (by kernel_rfl)) (by kernel_rfl)
theorem n74_4s : codeB Try.prog LL ⟨74, 9, b, ro⟩ n74_4 st = normS b ⟨[4], []⟩ .ret st := GE.ret_step (by kernel_rfl) (by kernel_rfl)
theorem n74_2s : codeB Try.prog E cx n74_2 st = thenS (codeB Try.prog E cx n74_3 st) (codeB Try.prog E cx n74_4) := GE.seq_step (by kernel_rfl)
theorem n74_0s : codeB Try.prog E cx n74_0 st = thenS (codeB Try.prog E cx n74_1 st) (codeB Try.prog E cx n74_2) := GE.seq_step (by kernel_rfl)
noncomputable def n75_0 : Code := bodyOf Try.f75
noncomputable def n75_1 : Code := cl n75_0
noncomputable def q75_1 : List Oper := opsOf n75_1
noncomputable def n75_2 : Code := cr n75_0
noncomputable def n75_3 : Code := cl n75_2
noncomputable def q75_3 : List Oper := opsOf n75_3
noncomputable def n75_4 : Code := cr n75_2
theorem body75 : Try.f75.body = some n75_0 := by kernel_rfl
theorem run75 (E : Ev) (args : List Value) (h : List Blk) (hl : args.length ≤ 14) : runB Try.prog E 75 args h = endS Try.prog [.tmp 2] h.length (codeB Try.prog E ⟨75, 14, h.length, none⟩ n75_0 ⟨enumT 0 args, h, []⟩) := GE.run_step Try.func75 body75 (by kernel_rfl) (by decide) (by kernel_rfl) hl
theorem n75_1s : codeB Try.prog E ⟨f, 14, b, ro⟩ n75_1 st = plainS (runOps Try.prog E b q75_1 (ops [false] Try.f75) st) := GE.region_step (id := 0) (GE.reg_of (by kernel_rfl)) (by kernel_rfl)
theorem q75_3g6 : gd q75_3 6 = some 9 := by kernel_rfl
theorem n75_3s : codeB Try.prog E ⟨f, 14, b, ro⟩ n75_3 st = plainS (runOps Try.prog E b q75_3 (ops [true, false] Try.f75) st) := GE.region_step (id := 1) (GE.reg_of (by kernel_rfl)) (by kernel_rfl)
theorem n75_4s : codeB Try.prog LL ⟨75, 14, b, ro⟩ n75_4 st = normS b ⟨[2], []⟩ .ret st := GE.ret_step (by kernel_rfl) (by kernel_rfl)
theorem n75_2s : codeB Try.prog E cx n75_2 st = thenS (codeB Try.prog E cx n75_3 st) (codeB Try.prog E cx n75_4) := GE.seq_step (by kernel_rfl)
theorem n75_0s : codeB Try.prog E cx n75_0 st = thenS (codeB Try.prog E cx n75_1 st) (codeB Try.prog E cx n75_2) := GE.seq_step (by kernel_rfl)
noncomputable def n77_0 : Code := bodyOf Try.f77
noncomputable def n77_1 : Code := cl n77_0
noncomputable def q77_1 : List Oper := opsOf n77_1
noncomputable def n77_2 : Code := cr n77_0
noncomputable def n77_3 : Code := cl n77_2
noncomputable def q77_3 : List Oper := opsOf n77_3
noncomputable def n77_4 : Code := cr n77_2
theorem body77 : Try.f77.body = some n77_0 := by kernel_rfl
theorem run77 (E : Ev) (args : List Value) (h : List Blk) (hl : args.length ≤ 18) : runB Try.prog E 77 args h = endS Try.prog [.tmp 6] h.length (codeB Try.prog E ⟨77, 18, h.length, none⟩ n77_0 ⟨enumT 0 args, h, []⟩) := GE.run_step Try.func77 body77 (by kernel_rfl) (by decide) (by kernel_rfl) hl
theorem n77_1s : codeB Try.prog E ⟨f, 18, b, ro⟩ n77_1 st = plainS (runOps Try.prog E b q77_1 (ops [false] Try.f77) st) := GE.region_step (id := 0) (GE.reg_of (by kernel_rfl)) (by kernel_rfl)
theorem n77_3s : codeB Try.prog E ⟨f, 18, b, ro⟩ n77_3 st = drawS [0, 0, 3, 7, 15, 0, 0, 96, 224, 480, 1023, 2047] (runOpsF Try.prog E b q77_3 (ops [true, false] Try.f77) st) := GE.draw_step (id := 1) (GE.reg_of (by kernel_rfl)) (by kernel_rfl) (by kernel_rfl) (by kernel_rfl)
theorem n77_4s : codeB Try.prog LL ⟨77, 18, b, ro⟩ n77_4 st = normS b ⟨[6], []⟩ .ret st := GE.ret_step (by kernel_rfl) (by kernel_rfl)
theorem n77_2s : codeB Try.prog E cx n77_2 st = thenS (codeB Try.prog E cx n77_3 st) (codeB Try.prog E cx n77_4) := GE.seq_step (by kernel_rfl)
theorem n77_0s : codeB Try.prog E cx n77_0 st = thenS (codeB Try.prog E cx n77_1 st) (codeB Try.prog E cx n77_2) := GE.seq_step (by kernel_rfl)
noncomputable def n82_0 : Code := bodyOf Try.f82
noncomputable def n82_1 : Code := cl n82_0
noncomputable def q82_1 : List Oper := opsOf n82_1
noncomputable def n82_2 : Code := cr n82_0
noncomputable def n82_3 : Code := cl n82_2
noncomputable def n82_4 : Code := cl n82_3
noncomputable def q82_4 : List Oper := opsOf n82_4
noncomputable def n82_5 : Code := cr n82_3
noncomputable def n82_6 : Code := cl n82_5
noncomputable def n82_7 : Code := cl n82_6
noncomputable def n82_8 : Code := cl n82_7
noncomputable def q82_8 : List Oper := opsOf n82_8
noncomputable def n82_9 : Code := cr n82_7
noncomputable def n82_10 : Code := cl n82_9
noncomputable def n82_11 : Code := cl n82_10
noncomputable def n82_12 : Code := cr n82_10
noncomputable def n82_13 : Code := cr n82_9
noncomputable def n82_14 : Code := cl n82_13
noncomputable def n82_15 : Code := cl n82_14
noncomputable def n82_16 : Code := cl n82_15
noncomputable def q82_16 : List Oper := opsOf n82_16
noncomputable def n82_17 : Code := cr n82_15
noncomputable def n82_18 : Code := cl n82_17
noncomputable def q82_18 : List Oper := opsOf n82_18
noncomputable def n82_19 : Code := cr n82_17
noncomputable def n82_20 : Code := cl n82_19
noncomputable def n82_21 : Code := cl n82_20
noncomputable def q82_21 : List Oper := opsOf n82_21
noncomputable def n82_22 : Code := cr n82_20
noncomputable def n82_23 : Code := cr n82_19
noncomputable def n82_24 : Code := cr n82_13
noncomputable def q82_24 : List Oper := opsOf n82_24
noncomputable def n82_25 : Code := cr n82_2
noncomputable def n82_26 : Code := cl n82_25
noncomputable def q82_26 : List Oper := opsOf n82_26
noncomputable def n82_27 : Code := cr n82_25
theorem body82 : Try.f82.body = some n82_0 := by kernel_rfl
theorem run82 (E : Ev) (args : List Value) (h : List Blk) (hl : args.length ≤ 19) : runB Try.prog E 82 args h = endS Try.prog [.tmp 4] h.length (codeB Try.prog E ⟨82, 19, h.length, none⟩ n82_0 ⟨enumT 0 args, h, []⟩) := GE.run_step Try.func82 body82 (by kernel_rfl) (by decide) (by kernel_rfl) hl
theorem n82_1s : codeB Try.prog E ⟨f, 19, b, ro⟩ n82_1 st = plainS (runOps Try.prog E b q82_1 (ops [false] Try.f82) st) := GE.region_step (id := 0) (GE.reg_of (by kernel_rfl)) (by kernel_rfl)
theorem n82_4s : codeB Try.prog E ⟨f, 19, b, ro⟩ n82_4 st = plainS (runOps Try.prog E b q82_4 (ops [true, false, false] Try.f82) st) := GE.region_step (id := 1) (GE.reg_of (by kernel_rfl)) (by kernel_rfl)
theorem n82_8s : codeB Try.prog E ⟨f, 19, b, ro⟩ n82_8 st = plainS (runOps Try.prog E b q82_8 (ops [true, false, true, false, false, false] Try.f82) st) := GE.region_step (id := 2) (GE.reg_of (by kernel_rfl)) (by kernel_rfl)
theorem n82_11s : codeB Try.prog E cx n82_11 st = some (.normal, st) := GE.skip_step (by kernel_rfl)
theorem n82_12s : codeB Try.prog LL ⟨82, 19, b, ro⟩ n82_12 st = normS b ⟨[], []⟩ (.exit 0) st := GE.exit_step (by kernel_rfl) (by kernel_rfl)
theorem n82_10s : codeB Try.prog E cx n82_10 st = condS (codeB Try.prog E cx n82_11) (codeB Try.prog E cx n82_12) (lk st.σ 9) st := GE.cond_step (c := .tmp 9) (by kernel_rfl)
theorem n82_16s : codeB Try.prog E ⟨f, 19, b, ro⟩ n82_16 st = plainS (runOps Try.prog E b q82_16 (ops [true, false, true, false, false, true, true, false, false, false] Try.f82) st) := GE.region_step (id := 3) (GE.reg_of (by kernel_rfl)) (by kernel_rfl)
theorem n82_18s : codeB Try.prog E ⟨f, 19, b, ro⟩ n82_18 st = plainS (runOps Try.prog E b q82_18 (ops [true, false, true, false, false, true, true, false, false, true, false] Try.f82) st) := GE.region_step (id := 4) (GE.reg_of (by kernel_rfl)) (by kernel_rfl)
theorem n82_21s : codeB Try.prog E ⟨f, 19, b, ro⟩ n82_21 st = plainS (runOps Try.prog E b q82_21 (ops [true, false, true, false, false, true, true, false, false, true, true, false, false] Try.f82) st) := GE.region_step (id := 5) (GE.reg_of (by kernel_rfl)) (by kernel_rfl)
theorem n82_22s : codeB Try.prog LL ⟨82, 19, b, ro⟩ n82_22 st = normS b ⟨[4], []⟩ .ret st := GE.ret_step (by kernel_rfl) (by kernel_rfl)
theorem n82_20s : codeB Try.prog E cx n82_20 st = thenS (codeB Try.prog E cx n82_21 st) (codeB Try.prog E cx n82_22) := GE.seq_step (by kernel_rfl)
theorem n82_23s : codeB Try.prog E cx n82_23 st = some (.normal, st) := GE.skip_step (by kernel_rfl)
theorem n82_19s : codeB Try.prog E cx n82_19 st = condS (codeB Try.prog E cx n82_20) (codeB Try.prog E cx n82_23) (lk st.σ 16) st := GE.cond_step (c := .tmp 16) (by kernel_rfl)
theorem n82_17s : codeB Try.prog E cx n82_17 st = thenS (codeB Try.prog E cx n82_18 st) (codeB Try.prog E cx n82_19) := GE.seq_step (by kernel_rfl)
theorem n82_15s : codeB Try.prog E cx n82_15 st = thenS (codeB Try.prog E cx n82_16 st) (codeB Try.prog E cx n82_17) := GE.seq_step (by kernel_rfl)
theorem n82_14s : codeB Try.prog E cx n82_14 st = blockS 1 (codeB Try.prog E cx n82_15 st) st := GE.block_step (by kernel_rfl)
theorem n82_24s : codeB Try.prog E ⟨f, 19, b, ro⟩ n82_24 st = plainS (runOps Try.prog E b q82_24 (ops [true, false, true, false, false, true, true, true] Try.f82) st) := GE.region_step (id := 6) (GE.reg_of (by kernel_rfl)) (by kernel_rfl)
theorem n82_13s : codeB Try.prog E cx n82_13 st = thenS (codeB Try.prog E cx n82_14 st) (codeB Try.prog E cx n82_24) := GE.seq_step (by kernel_rfl)
theorem n82_9s : codeB Try.prog E cx n82_9 st = thenS (codeB Try.prog E cx n82_10 st) (codeB Try.prog E cx n82_13) := GE.seq_step (by kernel_rfl)
theorem n82_7s : codeB Try.prog E cx n82_7 st = thenS (codeB Try.prog E cx n82_8 st) (codeB Try.prog E cx n82_9) := GE.seq_step (by kernel_rfl)
theorem n82_6k : LL.kp (⟨82, 19, b, ro⟩ : Cx).fn (4 * rid n82_7 + 3) = some ⟨[0, 1, 7, 8], [⟨0, 0, 2, true⟩]⟩ := by kernel_rfl
theorem n82_6s : codeB Try.prog LL ⟨82, 19, b, ro⟩ n82_6 st = headS b ⟨[0, 1, 7, 8], [⟨0, 0, 2, true⟩]⟩ st (lpB Try.prog LL ⟨82, 19, b, ro⟩ n82_6 n82_7) := GE.lpB_step (by kernel_rfl) (n82_6k b ro)
theorem n82_6g : LL.code ⟨82, 19, b, ro⟩ n82_6 st = headS b ⟨[0, 1, 7, 8], [⟨0, 0, 2, true⟩]⟩ st (lpB Try.prog LL ⟨82, 19, b, ro⟩ n82_6 n82_7) := GE.lpB_again (by kernel_rfl) (n82_6k b ro)
theorem n82_5s : codeB Try.prog E cx n82_5 st = blockS 0 (codeB Try.prog E cx n82_6 st) st := GE.block_step (by kernel_rfl)
theorem n82_3s : codeB Try.prog E cx n82_3 st = thenS (codeB Try.prog E cx n82_4 st) (codeB Try.prog E cx n82_5) := GE.seq_step (by kernel_rfl)
theorem n82_26s : codeB Try.prog E ⟨f, 19, b, ro⟩ n82_26 st = plainS (runOps Try.prog E b q82_26 (ops [true, true, false] Try.f82) st) := GE.region_step (id := 7) (GE.reg_of (by kernel_rfl)) (by kernel_rfl)
theorem n82_27s : codeB Try.prog LL ⟨82, 19, b, ro⟩ n82_27 st = normS b ⟨[4], []⟩ .ret st := GE.ret_step (by kernel_rfl) (by kernel_rfl)
theorem n82_25s : codeB Try.prog E cx n82_25 st = thenS (codeB Try.prog E cx n82_26 st) (codeB Try.prog E cx n82_27) := GE.seq_step (by kernel_rfl)
theorem n82_2s : codeB Try.prog E cx n82_2 st = thenS (codeB Try.prog E cx n82_3 st) (codeB Try.prog E cx n82_25) := GE.seq_step (by kernel_rfl)
theorem n82_0s : codeB Try.prog E cx n82_0 st = thenS (codeB Try.prog E cx n82_1 st) (codeB Try.prog E cx n82_2) := GE.seq_step (by kernel_rfl)
theorem lk_22 : lenK Try.prog 22 = some .sl := by kernel_rfl
theorem ea_60 : elemK Try.prog 60 = some (some 2, 1) := by kernel_rfl
theorem ia_5 : aggK Try.prog 5 = some (false, 1) := by kernel_rfl
theorem cv_5_3 : convK Try.prog 5 3 = some .i64 := by kernel_rfl
theorem es_24 : elemK Try.prog 24 = some (none, 1) := by kernel_rfl
theorem ia_3 : aggK Try.prog 3 = some (false, 1) := by kernel_rfl
theorem es_22 : elemK Try.prog 22 = some (none, 2) := by kernel_rfl
theorem fa_55_1 : fieldAt Try.prog 55 1 = some (1, 1) := by kernel_rfl
theorem fa_55_0 : fieldAt Try.prog 55 0 = some (0, 1) := by kernel_rfl
theorem lk_24 : lenK Try.prog 24 = some .sl := by kernel_rfl
theorem lk_47 : lenK Try.prog 47 = some .sl := by kernel_rfl
theorem es_47 : elemK Try.prog 47 = some (none, 2) := by kernel_rfl
theorem za_55 : zeroA Try.prog 55 = some (.agg #[(.int .i64 (0)), (.int .i64 (0))]) := by kernel_rfl
theorem pl_55 : plK Try.prog 55 = some [(0, 1), (1, 1)] := by kernel_rfl
theorem ze_22 : zeroE Try.prog 22 = some (.agg #[(.int .i64 (0)), (.int .i64 (0))]) := by kernel_rfl
theorem ba_22_1 : baseArr (Value.cells (.agg #[(.int .i64 (0)), (.int .i64 (0))])) (1 * 2) = #[(.int .i64 (0)), (.int .i64 (0))] := by kernel_rfl
theorem ap_22 : apK Try.prog 22 = some (2, 16) := by kernel_rfl
theorem ni_22 : notInt Try.prog 22 = true := by kernel_rfl
theorem ze_24 : zeroE Try.prog 24 = some (.int .i64 (0)) := by kernel_rfl
theorem ba_24_2 : baseArr (Value.cells (.int .i64 (0))) (2 * 1) = #[(.int .i64 (0)), (.int .i64 (0))] := by kernel_rfl
theorem ba_24_1 : baseArr (Value.cells (.int .i64 (0))) (1 * 1) = #[(.int .i64 (0))] := by kernel_rfl
theorem ap_24 : apK Try.prog 24 = some (1, 8) := by kernel_rfl
theorem ni_24 : notInt Try.prog 24 = true := by kernel_rfl
theorem lk_53 : lenK Try.prog 53 = some .sl := by kernel_rfl
theorem es_53 : elemK Try.prog 53 = some (none, 1) := by kernel_rfl
theorem ba_24_0 : baseArr (Value.cells (.int .i64 (0))) (0 * 1) = #[] := by kernel_rfl
theorem sl_24 : elemK Try.prog 24 = some (none, 1) := by kernel_rfl
theorem lk_78 : lenK Try.prog 78 = some .sl := by kernel_rfl
theorem es_78 : elemK Try.prog 78 = some (none, 2) := by kernel_rfl
theorem ia_55 : aggK Try.prog 55 = some (true, 2) := by kernel_rfl

end Go.Proofs.Ytfccmddkblbeoaa.rk
