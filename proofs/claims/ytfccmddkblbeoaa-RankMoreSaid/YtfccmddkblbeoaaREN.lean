/-
  Names for the nodes of the code of some functions (projections of their bodies), the step of each node, and the facts of types that they use.
-/
import Derived.Test.YtfccmddkblbeoaaKp
namespace Go.Proofs.Ytfccmddkblbeoaa.rk
open Go.GE
set_option maxRecDepth 100000
variable (E : Ev) (cx : Cx) (st : St) (f nt b : Nat) (ro : Option Nat)
noncomputable def n10_0 : Code := bodyOf Try.f10
noncomputable def n10_1 : Code := cl n10_0
noncomputable def q10_1 : List Oper := opsOf n10_1
noncomputable def n10_2 : Code := cr n10_0
noncomputable def n10_3 : Code := cl n10_2
noncomputable def q10_3 : List Oper := opsOf n10_3
noncomputable def n10_4 : Code := cr n10_2
noncomputable def n10_5 : Code := cl n10_4
noncomputable def q10_5 : List Oper := opsOf n10_5
noncomputable def n10_6 : Code := cr n10_4
noncomputable def n10_7 : Code := cl n10_6
noncomputable def q10_7 : List Oper := opsOf n10_7
noncomputable def n10_8 : Code := cr n10_6
noncomputable def n10_9 : Code := cl n10_8
noncomputable def n10_10 : Code := cl n10_9
noncomputable def q10_10 : List Oper := opsOf n10_10
noncomputable def n10_11 : Code := cr n10_9
noncomputable def n10_12 : Code := cl n10_11
noncomputable def n10_13 : Code := cl n10_12
noncomputable def n10_14 : Code := cl n10_13
noncomputable def q10_14 : List Oper := opsOf n10_14
noncomputable def n10_15 : Code := cr n10_13
noncomputable def n10_16 : Code := cl n10_15
noncomputable def n10_17 : Code := cl n10_16
noncomputable def n10_18 : Code := cr n10_16
noncomputable def n10_19 : Code := cr n10_15
noncomputable def n10_20 : Code := cl n10_19
noncomputable def n10_21 : Code := cl n10_20
noncomputable def n10_22 : Code := cl n10_21
noncomputable def q10_22 : List Oper := opsOf n10_22
noncomputable def n10_23 : Code := cr n10_21
noncomputable def n10_24 : Code := cl n10_23
noncomputable def q10_24 : List Oper := opsOf n10_24
noncomputable def n10_25 : Code := cr n10_23
noncomputable def n10_26 : Code := cl n10_25
noncomputable def q10_26 : List Oper := opsOf n10_26
noncomputable def n10_27 : Code := cr n10_25
noncomputable def q10_27 : List Oper := opsOf n10_27
noncomputable def n10_28 : Code := cr n10_19
noncomputable def q10_28 : List Oper := opsOf n10_28
noncomputable def n10_29 : Code := cr n10_8
noncomputable def n10_30 : Code := cl n10_29
noncomputable def q10_30 : List Oper := opsOf n10_30
noncomputable def n10_31 : Code := cr n10_29
noncomputable def n10_32 : Code := cl n10_31
noncomputable def n10_33 : Code := cl n10_32
noncomputable def q10_33 : List Oper := opsOf n10_33
noncomputable def n10_34 : Code := cr n10_32
noncomputable def n10_35 : Code := cl n10_34
noncomputable def n10_36 : Code := cl n10_35
noncomputable def n10_37 : Code := cl n10_36
noncomputable def q10_37 : List Oper := opsOf n10_37
noncomputable def n10_38 : Code := cr n10_36
noncomputable def n10_39 : Code := cl n10_38
noncomputable def n10_40 : Code := cl n10_39
noncomputable def n10_41 : Code := cr n10_39
noncomputable def n10_42 : Code := cr n10_38
noncomputable def n10_43 : Code := cl n10_42
noncomputable def n10_44 : Code := cl n10_43
noncomputable def n10_45 : Code := cl n10_44
noncomputable def q10_45 : List Oper := opsOf n10_45
noncomputable def n10_46 : Code := cr n10_44
noncomputable def q10_46 : List Oper := opsOf n10_46
noncomputable def n10_47 : Code := cr n10_42
noncomputable def q10_47 : List Oper := opsOf n10_47
noncomputable def n10_48 : Code := cr n10_31
noncomputable def n10_49 : Code := cl n10_48
noncomputable def q10_49 : List Oper := opsOf n10_49
noncomputable def n10_50 : Code := cr n10_48
noncomputable def n10_51 : Code := cl n10_50
noncomputable def q10_51 : List Oper := opsOf n10_51
noncomputable def n10_52 : Code := cr n10_50
noncomputable def n10_53 : Code := cl n10_52
noncomputable def q10_53 : List Oper := opsOf n10_53
noncomputable def n10_54 : Code := cr n10_52
noncomputable def n10_55 : Code := cl n10_54
noncomputable def q10_55 : List Oper := opsOf n10_55
noncomputable def n10_56 : Code := cr n10_54
noncomputable def n10_57 : Code := cl n10_56
noncomputable def q10_57 : List Oper := opsOf n10_57
noncomputable def n10_58 : Code := cr n10_56
noncomputable def n10_59 : Code := cl n10_58
noncomputable def n10_60 : Code := cl n10_59
noncomputable def q10_60 : List Oper := opsOf n10_60
noncomputable def n10_61 : Code := cr n10_59
noncomputable def n10_62 : Code := cl n10_61
noncomputable def n10_63 : Code := cl n10_62
noncomputable def q10_63 : List Oper := opsOf n10_63
noncomputable def n10_64 : Code := cr n10_62
noncomputable def n10_65 : Code := cr n10_61
noncomputable def n10_66 : Code := cr n10_58
noncomputable def n10_67 : Code := cl n10_66
noncomputable def q10_67 : List Oper := opsOf n10_67
noncomputable def n10_68 : Code := cr n10_66
theorem body10 : Try.f10.body = some n10_0 := by kernel_rfl
theorem run10 (E : Ev) (args : List Value) (h : List Blk) (hl : args.length ≤ 180) : runB Try.prog E 10 args h = endS Try.prog [.tmp 8] h.length (codeB Try.prog E ⟨10, 180, h.length, none⟩ n10_0 ⟨enumT 0 args, h, []⟩) := GE.run_step Try.func10 body10 (by kernel_rfl) (by decide) (by kernel_rfl) hl
theorem n10_1s : codeB Try.prog E ⟨f, 180, b, ro⟩ n10_1 st = plainS (runOps Try.prog E b q10_1 (ops [false] Try.f10) st) := GE.region_step (id := 0) (GE.reg_of (by kernel_rfl)) (by kernel_rfl)
theorem n10_3s : codeB Try.prog E ⟨f, 180, b, ro⟩ n10_3 st = plainS (runOps Try.prog E b q10_3 (ops [true, false] Try.f10) st) := GE.region_step (id := 1) (GE.reg_of (by kernel_rfl)) (by kernel_rfl)
theorem n10_5s : codeB Try.prog E ⟨f, 180, b, ro⟩ n10_5 st = plainS (runOps Try.prog E b q10_5 (ops [true, true, false] Try.f10) st) := GE.region_step (id := 2) (GE.reg_of (by kernel_rfl)) (by kernel_rfl)
theorem n10_7s : codeB Try.prog E ⟨f, 180, b, ro⟩ n10_7 st = plainS (runOps Try.prog E b q10_7 (ops [true, true, true, false] Try.f10) st) := GE.region_step (id := 3) (GE.reg_of (by kernel_rfl)) (by kernel_rfl)
theorem n10_10s : codeB Try.prog E ⟨f, 180, b, ro⟩ n10_10 st = plainS (runOps Try.prog E b q10_10 (ops [true, true, true, true, false, false] Try.f10) st) := GE.region_step (id := 4) (GE.reg_of (by kernel_rfl)) (by kernel_rfl)
theorem n10_14s : codeB Try.prog E ⟨f, 180, b, ro⟩ n10_14 st = plainS (runOps Try.prog E b q10_14 (ops [true, true, true, true, false, true, false, false, false] Try.f10) st) := GE.region_step (id := 5) (GE.reg_of (by kernel_rfl)) (by kernel_rfl)
theorem n10_17s : codeB Try.prog E cx n10_17 st = some (.normal, st) := GE.skip_step (by kernel_rfl)
theorem n10_18s : codeB Try.prog LL ⟨10, 180, b, ro⟩ n10_18 st = normS b ⟨[9, 10, 11, 12, 13], [⟨9, 0, 2, true⟩, ⟨10, 0, 1, true⟩, ⟨11, 0, 2, true⟩, ⟨12, 0, 2, true⟩, ⟨13, 0, 2, true⟩]⟩ (.exit 0) st := GE.exit_step (by kernel_rfl) (by kernel_rfl)
theorem n10_16s : codeB Try.prog E cx n10_16 st = condS (codeB Try.prog E cx n10_17) (codeB Try.prog E cx n10_18) (lk st.σ 36) st := GE.cond_step (c := .tmp 36) (by kernel_rfl)
theorem n10_22s : codeB Try.prog E ⟨f, 180, b, ro⟩ n10_22 st = plainS (runOps Try.prog E b q10_22 (ops [true, true, true, true, false, true, false, false, true, true, false, false, false] Try.f10) st) := GE.region_step (id := 6) (GE.reg_of (by kernel_rfl)) (by kernel_rfl)
theorem n10_24s : codeB Try.prog E ⟨f, 180, b, ro⟩ n10_24 st = drawS [0, 0, 2, 0, 8, 24, 56, 120, 254, 510, 0, 1024, 0, 4096, 12288, 28672, 61440, 130048, 262142, 524286, 1048575, 2097151] (runOpsF Try.prog E b q10_24 (ops [true, true, true, true, false, true, false, false, true, true, false, false, true, false] Try.f10) st) := GE.draw_step (id := 7) (GE.reg_of (by kernel_rfl)) (by kernel_rfl) (by kernel_rfl) (by kernel_rfl)
theorem n10_26s : codeB Try.prog E ⟨f, 180, b, ro⟩ n10_26 st = plainS (runOps Try.prog E b q10_26 (ops [true, true, true, true, false, true, false, false, true, true, false, false, true, true, false] Try.f10) st) := GE.region_step (id := 8) (GE.reg_of (by kernel_rfl)) (by kernel_rfl)
theorem n10_27s : codeB Try.prog E ⟨f, 180, b, ro⟩ n10_27 st = plainS (runOps Try.prog E b q10_27 (ops [true, true, true, true, false, true, false, false, true, true, false, false, true, true, true] Try.f10) st) := GE.region_step (id := 9) (GE.reg_of (by kernel_rfl)) (by kernel_rfl)
theorem n10_25s : codeB Try.prog E cx n10_25 st = thenS (codeB Try.prog E cx n10_26 st) (codeB Try.prog E cx n10_27) := GE.seq_step (by kernel_rfl)
theorem n10_23s : codeB Try.prog E cx n10_23 st = thenS (codeB Try.prog E cx n10_24 st) (codeB Try.prog E cx n10_25) := GE.seq_step (by kernel_rfl)
theorem n10_21s : codeB Try.prog E cx n10_21 st = thenS (codeB Try.prog E cx n10_22 st) (codeB Try.prog E cx n10_23) := GE.seq_step (by kernel_rfl)
theorem n10_20s : codeB Try.prog E cx n10_20 st = blockS 1 (codeB Try.prog E cx n10_21 st) st := GE.block_step (by kernel_rfl)
theorem n10_28s : codeB Try.prog E ⟨f, 180, b, ro⟩ n10_28 st = plainS (runOps Try.prog E b q10_28 (ops [true, true, true, true, false, true, false, false, true, true, true] Try.f10) st) := GE.region_step (id := 10) (GE.reg_of (by kernel_rfl)) (by kernel_rfl)
theorem n10_19s : codeB Try.prog E cx n10_19 st = thenS (codeB Try.prog E cx n10_20 st) (codeB Try.prog E cx n10_28) := GE.seq_step (by kernel_rfl)
theorem n10_15s : codeB Try.prog E cx n10_15 st = thenS (codeB Try.prog E cx n10_16 st) (codeB Try.prog E cx n10_19) := GE.seq_step (by kernel_rfl)
theorem n10_13s : codeB Try.prog E cx n10_13 st = thenS (codeB Try.prog E cx n10_14 st) (codeB Try.prog E cx n10_15) := GE.seq_step (by kernel_rfl)
theorem n10_12k : LL.kp (⟨10, 180, b, ro⟩ : Cx).fn (4 * rid n10_13 + 3) = some ⟨[3, 6, 9, 10, 11, 12, 13, 33, 34, 35], [⟨9, 0, 2, true⟩, ⟨10, 0, 1, true⟩, ⟨11, 0, 2, true⟩, ⟨12, 0, 2, true⟩, ⟨13, 0, 2, true⟩, ⟨33, 0, 2, true⟩]⟩ := by kernel_rfl
theorem n10_12s : codeB Try.prog LL ⟨10, 180, b, ro⟩ n10_12 st = headS b ⟨[3, 6, 9, 10, 11, 12, 13, 33, 34, 35], [⟨9, 0, 2, true⟩, ⟨10, 0, 1, true⟩, ⟨11, 0, 2, true⟩, ⟨12, 0, 2, true⟩, ⟨13, 0, 2, true⟩, ⟨33, 0, 2, true⟩]⟩ st (lpB Try.prog LL ⟨10, 180, b, ro⟩ n10_12 n10_13) := GE.lpB_step (by kernel_rfl) (n10_12k b ro)
theorem n10_12g : LL.code ⟨10, 180, b, ro⟩ n10_12 st = headS b ⟨[3, 6, 9, 10, 11, 12, 13, 33, 34, 35], [⟨9, 0, 2, true⟩, ⟨10, 0, 1, true⟩, ⟨11, 0, 2, true⟩, ⟨12, 0, 2, true⟩, ⟨13, 0, 2, true⟩, ⟨33, 0, 2, true⟩]⟩ st (lpB Try.prog LL ⟨10, 180, b, ro⟩ n10_12 n10_13) := GE.lpB_again (by kernel_rfl) (n10_12k b ro)
theorem n10_11s : codeB Try.prog E cx n10_11 st = blockS 0 (codeB Try.prog E cx n10_12 st) st := GE.block_step (by kernel_rfl)
theorem n10_9s : codeB Try.prog E cx n10_9 st = thenS (codeB Try.prog E cx n10_10 st) (codeB Try.prog E cx n10_11) := GE.seq_step (by kernel_rfl)
theorem n10_30s : codeB Try.prog E ⟨f, 180, b, ro⟩ n10_30 st = plainS (runOps Try.prog E b q10_30 (ops [true, true, true, true, true, false] Try.f10) st) := GE.region_step (id := 11) (GE.reg_of (by kernel_rfl)) (by kernel_rfl)
theorem n10_33s : codeB Try.prog E ⟨f, 180, b, ro⟩ n10_33 st = plainS (runOps Try.prog E b q10_33 (ops [true, true, true, true, true, true, false, false] Try.f10) st) := GE.region_step (id := 12) (GE.reg_of (by kernel_rfl)) (by kernel_rfl)
theorem n10_37s : codeB Try.prog E ⟨f, 180, b, ro⟩ n10_37 st = plainS (runOps Try.prog E b q10_37 (ops [true, true, true, true, true, true, false, true, false, false, false] Try.f10) st) := GE.region_step (id := 13) (GE.reg_of (by kernel_rfl)) (by kernel_rfl)
theorem n10_40s : codeB Try.prog E cx n10_40 st = some (.normal, st) := GE.skip_step (by kernel_rfl)
theorem n10_41s : codeB Try.prog LL ⟨10, 180, b, ro⟩ n10_41 st = normS b ⟨[9, 10, 11, 12, 13, 16], [⟨9, 0, 2, true⟩, ⟨10, 0, 1, true⟩, ⟨11, 0, 2, true⟩, ⟨12, 0, 2, true⟩, ⟨13, 0, 2, true⟩, ⟨16, 0, 1, true⟩]⟩ (.exit 2) st := GE.exit_step (by kernel_rfl) (by kernel_rfl)
theorem n10_39s : codeB Try.prog E cx n10_39 st = condS (codeB Try.prog E cx n10_40) (codeB Try.prog E cx n10_41) (lk st.σ 89) st := GE.cond_step (c := .tmp 89) (by kernel_rfl)
theorem n10_45s : codeB Try.prog E ⟨f, 180, b, ro⟩ n10_45 st = plainS (runOps Try.prog E b q10_45 (ops [true, true, true, true, true, true, false, true, false, false, true, true, false, false, false] Try.f10) st) := GE.region_step (id := 14) (GE.reg_of (by kernel_rfl)) (by kernel_rfl)
theorem n10_46s : codeB Try.prog E ⟨f, 180, b, ro⟩ n10_46 st = plainS (runOps Try.prog E b q10_46 (ops [true, true, true, true, true, true, false, true, false, false, true, true, false, false, true] Try.f10) st) := GE.region_step (id := 15) (GE.reg_of (by kernel_rfl)) (by kernel_rfl)
theorem n10_44s : codeB Try.prog E cx n10_44 st = thenS (codeB Try.prog E cx n10_45 st) (codeB Try.prog E cx n10_46) := GE.seq_step (by kernel_rfl)
theorem n10_43s : codeB Try.prog E cx n10_43 st = blockS 3 (codeB Try.prog E cx n10_44 st) st := GE.block_step (by kernel_rfl)
theorem n10_47s : codeB Try.prog E ⟨f, 180, b, ro⟩ n10_47 st = plainS (runOps Try.prog E b q10_47 (ops [true, true, true, true, true, true, false, true, false, false, true, true, true] Try.f10) st) := GE.region_step (id := 16) (GE.reg_of (by kernel_rfl)) (by kernel_rfl)
theorem n10_42s : codeB Try.prog E cx n10_42 st = thenS (codeB Try.prog E cx n10_43 st) (codeB Try.prog E cx n10_47) := GE.seq_step (by kernel_rfl)
theorem n10_38s : codeB Try.prog E cx n10_38 st = thenS (codeB Try.prog E cx n10_39 st) (codeB Try.prog E cx n10_42) := GE.seq_step (by kernel_rfl)
theorem n10_36s : codeB Try.prog E cx n10_36 st = thenS (codeB Try.prog E cx n10_37 st) (codeB Try.prog E cx n10_38) := GE.seq_step (by kernel_rfl)
theorem n10_35k : LL.kp (⟨10, 180, b, ro⟩ : Cx).fn (4 * rid n10_36 + 3) = some ⟨[9, 10, 11, 12, 13, 16, 87, 88], [⟨9, 0, 2, true⟩, ⟨10, 0, 1, true⟩, ⟨11, 0, 2, true⟩, ⟨12, 0, 2, true⟩, ⟨13, 0, 2, true⟩, ⟨16, 0, 1, true⟩]⟩ := by kernel_rfl
theorem n10_35s : codeB Try.prog LL ⟨10, 180, b, ro⟩ n10_35 st = headS b ⟨[9, 10, 11, 12, 13, 16, 87, 88], [⟨9, 0, 2, true⟩, ⟨10, 0, 1, true⟩, ⟨11, 0, 2, true⟩, ⟨12, 0, 2, true⟩, ⟨13, 0, 2, true⟩, ⟨16, 0, 1, true⟩]⟩ st (lpB Try.prog LL ⟨10, 180, b, ro⟩ n10_35 n10_36) := GE.lpB_step (by kernel_rfl) (n10_35k b ro)
theorem n10_35g : LL.code ⟨10, 180, b, ro⟩ n10_35 st = headS b ⟨[9, 10, 11, 12, 13, 16, 87, 88], [⟨9, 0, 2, true⟩, ⟨10, 0, 1, true⟩, ⟨11, 0, 2, true⟩, ⟨12, 0, 2, true⟩, ⟨13, 0, 2, true⟩, ⟨16, 0, 1, true⟩]⟩ st (lpB Try.prog LL ⟨10, 180, b, ro⟩ n10_35 n10_36) := GE.lpB_again (by kernel_rfl) (n10_35k b ro)
theorem n10_34s : codeB Try.prog E cx n10_34 st = blockS 2 (codeB Try.prog E cx n10_35 st) st := GE.block_step (by kernel_rfl)
theorem n10_32s : codeB Try.prog E cx n10_32 st = thenS (codeB Try.prog E cx n10_33 st) (codeB Try.prog E cx n10_34) := GE.seq_step (by kernel_rfl)
theorem n10_49s : codeB Try.prog E ⟨f, 180, b, ro⟩ n10_49 st = plainS (runOps Try.prog E b q10_49 (ops [true, true, true, true, true, true, true, false] Try.f10) st) := GE.region_step (id := 17) (GE.reg_of (by kernel_rfl)) (by kernel_rfl)
theorem n10_51s : codeB Try.prog E ⟨f, 180, b, ro⟩ n10_51 st = plainS (runOps Try.prog E b q10_51 (ops [true, true, true, true, true, true, true, true, false] Try.f10) st) := GE.region_step (id := 18) (GE.reg_of (by kernel_rfl)) (by kernel_rfl)
theorem n10_53s : codeB Try.prog E ⟨f, 180, b, ro⟩ n10_53 st = plainS (runOps Try.prog E b q10_53 (ops [true, true, true, true, true, true, true, true, true, false] Try.f10) st) := GE.region_step (id := 19) (GE.reg_of (by kernel_rfl)) (by kernel_rfl)
theorem n10_55s : codeB Try.prog E ⟨f, 180, b, ro⟩ n10_55 st = plainS (runOps Try.prog E b q10_55 (ops [true, true, true, true, true, true, true, true, true, true, false] Try.f10) st) := GE.region_step (id := 20) (GE.reg_of (by kernel_rfl)) (by kernel_rfl)
theorem n10_57s : codeB Try.prog E ⟨f, 180, b, ro⟩ n10_57 st = plainS (runOps Try.prog E b q10_57 (ops [true, true, true, true, true, true, true, true, true, true, true, false] Try.f10) st) := GE.region_step (id := 21) (GE.reg_of (by kernel_rfl)) (by kernel_rfl)
theorem q10_60g2 : gd q10_60 2 = some 128 := by kernel_rfl
theorem q10_60g6 : gd q10_60 6 = some 132 := by kernel_rfl
theorem q10_60g10 : gd q10_60 10 = some 136 := by kernel_rfl
theorem q10_60g14 : gd q10_60 14 = some 140 := by kernel_rfl
theorem q10_60g19 : gd q10_60 19 = some 145 := by kernel_rfl
theorem q10_60g24 : gd q10_60 24 = some 150 := by kernel_rfl
theorem n10_60s : codeB Try.prog E ⟨f, 180, b, ro⟩ n10_60 st = plainS (runOps Try.prog E b q10_60 (ops [true, true, true, true, true, true, true, true, true, true, true, true, false, false] Try.f10) st) := GE.region_step (id := 22) (GE.reg_of (by kernel_rfl)) (by kernel_rfl)
theorem n10_63s : codeB Try.prog E ⟨f, 180, b, ro⟩ n10_63 st = plainS (runOps Try.prog E b q10_63 (ops [true, true, true, true, true, true, true, true, true, true, true, true, false, true, false, false] Try.f10) st) := GE.region_step (id := 23) (GE.reg_of (by kernel_rfl)) (by kernel_rfl)
theorem n10_64s : codeB Try.prog LL ⟨10, 180, b, ro⟩ n10_64 st = normS b ⟨[8], []⟩ .ret st := GE.ret_step (by kernel_rfl) (by kernel_rfl)
theorem n10_62s : codeB Try.prog E cx n10_62 st = thenS (codeB Try.prog E cx n10_63 st) (codeB Try.prog E cx n10_64) := GE.seq_step (by kernel_rfl)
theorem n10_65s : codeB Try.prog E cx n10_65 st = some (.normal, st) := GE.skip_step (by kernel_rfl)
theorem n10_61s : codeB Try.prog E cx n10_61 st = condS (codeB Try.prog E cx n10_62) (codeB Try.prog E cx n10_65) (lk st.σ 154) st := GE.cond_step (c := .tmp 154) (by kernel_rfl)
theorem n10_59s : codeB Try.prog E cx n10_59 st = thenS (codeB Try.prog E cx n10_60 st) (codeB Try.prog E cx n10_61) := GE.seq_step (by kernel_rfl)
theorem q10_67g2 : gd q10_67 2 = some 157 := by kernel_rfl
theorem q10_67g8 : gd q10_67 8 = some 163 := by kernel_rfl
theorem q10_67g15 : gd q10_67 15 = some 170 := by kernel_rfl
theorem q10_67g22 : gd q10_67 22 = some 177 := by kernel_rfl
theorem n10_67s : codeB Try.prog E ⟨f, 180, b, ro⟩ n10_67 st = plainS (runOps Try.prog E b q10_67 (ops [true, true, true, true, true, true, true, true, true, true, true, true, true, false] Try.f10) st) := GE.region_step (id := 24) (GE.reg_of (by kernel_rfl)) (by kernel_rfl)
theorem n10_68s : codeB Try.prog LL ⟨10, 180, b, ro⟩ n10_68 st = normS b ⟨[8], []⟩ .ret st := GE.ret_step (by kernel_rfl) (by kernel_rfl)
theorem n10_66s : codeB Try.prog E cx n10_66 st = thenS (codeB Try.prog E cx n10_67 st) (codeB Try.prog E cx n10_68) := GE.seq_step (by kernel_rfl)
theorem n10_58s : codeB Try.prog E cx n10_58 st = thenS (codeB Try.prog E cx n10_59 st) (codeB Try.prog E cx n10_66) := GE.seq_step (by kernel_rfl)
theorem n10_56s : codeB Try.prog E cx n10_56 st = thenS (codeB Try.prog E cx n10_57 st) (codeB Try.prog E cx n10_58) := GE.seq_step (by kernel_rfl)
theorem n10_54s : codeB Try.prog E cx n10_54 st = thenS (codeB Try.prog E cx n10_55 st) (codeB Try.prog E cx n10_56) := GE.seq_step (by kernel_rfl)
theorem n10_52s : codeB Try.prog E cx n10_52 st = thenS (codeB Try.prog E cx n10_53 st) (codeB Try.prog E cx n10_54) := GE.seq_step (by kernel_rfl)
theorem n10_50s : codeB Try.prog E cx n10_50 st = thenS (codeB Try.prog E cx n10_51 st) (codeB Try.prog E cx n10_52) := GE.seq_step (by kernel_rfl)
theorem n10_48s : codeB Try.prog E cx n10_48 st = thenS (codeB Try.prog E cx n10_49 st) (codeB Try.prog E cx n10_50) := GE.seq_step (by kernel_rfl)
theorem n10_31s : codeB Try.prog E cx n10_31 st = thenS (codeB Try.prog E cx n10_32 st) (codeB Try.prog E cx n10_48) := GE.seq_step (by kernel_rfl)
theorem n10_29s : codeB Try.prog E cx n10_29 st = thenS (codeB Try.prog E cx n10_30 st) (codeB Try.prog E cx n10_31) := GE.seq_step (by kernel_rfl)
theorem n10_8s : codeB Try.prog E cx n10_8 st = thenS (codeB Try.prog E cx n10_9 st) (codeB Try.prog E cx n10_29) := GE.seq_step (by kernel_rfl)
theorem n10_6s : codeB Try.prog E cx n10_6 st = thenS (codeB Try.prog E cx n10_7 st) (codeB Try.prog E cx n10_8) := GE.seq_step (by kernel_rfl)
theorem n10_4s : codeB Try.prog E cx n10_4 st = thenS (codeB Try.prog E cx n10_5 st) (codeB Try.prog E cx n10_6) := GE.seq_step (by kernel_rfl)
theorem n10_2s : codeB Try.prog E cx n10_2 st = thenS (codeB Try.prog E cx n10_3 st) (codeB Try.prog E cx n10_4) := GE.seq_step (by kernel_rfl)
theorem n10_0s : codeB Try.prog E cx n10_0 st = thenS (codeB Try.prog E cx n10_1 st) (codeB Try.prog E cx n10_2) := GE.seq_step (by kernel_rfl)
noncomputable def n23_0 : Code := bodyOf Try.f23
noncomputable def n23_1 : Code := cl n23_0
noncomputable def q23_1 : List Oper := opsOf n23_1
noncomputable def n23_2 : Code := cr n23_0
noncomputable def n23_3 : Code := cl n23_2
noncomputable def q23_3 : List Oper := opsOf n23_3
noncomputable def n23_4 : Code := cr n23_2
noncomputable def n23_5 : Code := cl n23_4
noncomputable def n23_6 : Code := cl n23_5
noncomputable def q23_6 : List Oper := opsOf n23_6
noncomputable def n23_7 : Code := cr n23_5
noncomputable def n23_8 : Code := cl n23_7
noncomputable def n23_9 : Code := cl n23_8
noncomputable def q23_9 : List Oper := opsOf n23_9
noncomputable def n23_10 : Code := cr n23_8
noncomputable def n23_11 : Code := cr n23_7
noncomputable def n23_12 : Code := cr n23_4
noncomputable def n23_13 : Code := cl n23_12
noncomputable def q23_13 : List Oper := opsOf n23_13
noncomputable def n23_14 : Code := cr n23_12
theorem body23 : Try.f23.body = some n23_0 := by kernel_rfl
theorem run23 (E : Ev) (args : List Value) (h : List Blk) (hl : args.length ≤ 19) : runB Try.prog E 23 args h = endS Try.prog [.tmp 2, .tmp 3] h.length (codeB Try.prog E ⟨23, 19, h.length, none⟩ n23_0 ⟨enumT 0 args, h, []⟩) := GE.run_step Try.func23 body23 (by kernel_rfl) (by decide) (by kernel_rfl) hl
theorem n23_1s : codeB Try.prog E ⟨f, 19, b, ro⟩ n23_1 st = plainS (runOps Try.prog E b q23_1 (ops [false] Try.f23) st) := GE.region_step (id := 0) (GE.reg_of (by kernel_rfl)) (by kernel_rfl)
theorem n23_3s : codeB Try.prog E ⟨f, 19, b, ro⟩ n23_3 st = plainS (runOps Try.prog E b q23_3 (ops [true, false] Try.f23) st) := GE.region_step (id := 1) (GE.reg_of (by kernel_rfl)) (by kernel_rfl)
theorem n23_6s : codeB Try.prog E ⟨f, 19, b, ro⟩ n23_6 st = plainS (runOps Try.prog E b q23_6 (ops [true, true, false, false] Try.f23) st) := GE.region_step (id := 2) (GE.reg_of (by kernel_rfl)) (by kernel_rfl)
theorem n23_9s : codeB Try.prog E ⟨f, 19, b, ro⟩ n23_9 st = plainS (runOps Try.prog E b q23_9 (ops [true, true, false, true, false, false] Try.f23) st) := GE.region_step (id := 3) (GE.reg_of (by kernel_rfl)) (by kernel_rfl)
theorem n23_10s : codeB Try.prog LL ⟨23, 19, b, ro⟩ n23_10 st = normS b ⟨[2, 3], []⟩ .ret st := GE.ret_step (by kernel_rfl) (by kernel_rfl)
theorem n23_8s : codeB Try.prog E cx n23_8 st = thenS (codeB Try.prog E cx n23_9 st) (codeB Try.prog E cx n23_10) := GE.seq_step (by kernel_rfl)
theorem n23_11s : codeB Try.prog E cx n23_11 st = some (.normal, st) := GE.skip_step (by kernel_rfl)
theorem n23_7s : codeB Try.prog E cx n23_7 st = condS (codeB Try.prog E cx n23_8) (codeB Try.prog E cx n23_11) (lk st.σ 12) st := GE.cond_step (c := .tmp 12) (by kernel_rfl)
theorem n23_5s : codeB Try.prog E cx n23_5 st = thenS (codeB Try.prog E cx n23_6 st) (codeB Try.prog E cx n23_7) := GE.seq_step (by kernel_rfl)
theorem n23_13s : codeB Try.prog E ⟨f, 19, b, ro⟩ n23_13 st = plainS (runOps Try.prog E b q23_13 (ops [true, true, true, false] Try.f23) st) := GE.region_step (id := 4) (GE.reg_of (by kernel_rfl)) (by kernel_rfl)
theorem n23_14s : codeB Try.prog LL ⟨23, 19, b, ro⟩ n23_14 st = normS b ⟨[2, 3], []⟩ .ret st := GE.ret_step (by kernel_rfl) (by kernel_rfl)
theorem n23_12s : codeB Try.prog E cx n23_12 st = thenS (codeB Try.prog E cx n23_13 st) (codeB Try.prog E cx n23_14) := GE.seq_step (by kernel_rfl)
theorem n23_4s : codeB Try.prog E cx n23_4 st = thenS (codeB Try.prog E cx n23_5 st) (codeB Try.prog E cx n23_12) := GE.seq_step (by kernel_rfl)
theorem n23_2s : codeB Try.prog E cx n23_2 st = thenS (codeB Try.prog E cx n23_3 st) (codeB Try.prog E cx n23_4) := GE.seq_step (by kernel_rfl)
theorem n23_0s : codeB Try.prog E cx n23_0 st = thenS (codeB Try.prog E cx n23_1 st) (codeB Try.prog E cx n23_2) := GE.seq_step (by kernel_rfl)
noncomputable def n35_0 : Code := bodyOf Try.f35
noncomputable def n35_1 : Code := cl n35_0
noncomputable def q35_1 : List Oper := opsOf n35_1
noncomputable def n35_2 : Code := cr n35_0
noncomputable def n35_3 : Code := cl n35_2
noncomputable def q35_3 : List Oper := opsOf n35_3
noncomputable def n35_4 : Code := cr n35_2
noncomputable def n35_5 : Code := cl n35_4
noncomputable def n35_6 : Code := cl n35_5
noncomputable def q35_6 : List Oper := opsOf n35_6
noncomputable def n35_7 : Code := cr n35_5
noncomputable def n35_8 : Code := cl n35_7
noncomputable def n35_9 : Code := cl n35_8
noncomputable def n35_10 : Code := cl n35_9
noncomputable def n35_11 : Code := cl n35_10
noncomputable def q35_11 : List Oper := opsOf n35_11
noncomputable def n35_12 : Code := cr n35_10
noncomputable def n35_13 : Code := cl n35_12
noncomputable def n35_14 : Code := cr n35_12
noncomputable def n35_15 : Code := cr n35_9
noncomputable def n35_16 : Code := cl n35_15
noncomputable def n35_17 : Code := cl n35_16
noncomputable def n35_18 : Code := cl n35_17
noncomputable def q35_18 : List Oper := opsOf n35_18
noncomputable def n35_19 : Code := cr n35_17
noncomputable def q35_19 : List Oper := opsOf n35_19
noncomputable def n35_20 : Code := cr n35_15
noncomputable def q35_20 : List Oper := opsOf n35_20
noncomputable def n35_21 : Code := cr n35_4
noncomputable def n35_22 : Code := cl n35_21
noncomputable def n35_23 : Code := cl n35_22
noncomputable def q35_23 : List Oper := opsOf n35_23
noncomputable def n35_24 : Code := cr n35_22
noncomputable def n35_25 : Code := cl n35_24
noncomputable def q35_25 : List Oper := opsOf n35_25
noncomputable def n35_26 : Code := cr n35_24
noncomputable def n35_27 : Code := cr n35_21
noncomputable def n35_28 : Code := cl n35_27
noncomputable def q35_28 : List Oper := opsOf n35_28
noncomputable def n35_29 : Code := cr n35_27
theorem body35 : Try.f35.body = some n35_0 := by kernel_rfl
theorem run35 (E : Ev) (args : List Value) (h : List Blk) (hl : args.length ≤ 43) : runB Try.prog E 35 args h = endS Try.prog [.tmp 2] h.length (codeB Try.prog E ⟨35, 43, h.length, none⟩ n35_0 ⟨enumT 0 args, h, []⟩) := GE.run_step Try.func35 body35 (by kernel_rfl) (by decide) (by kernel_rfl) hl
theorem n35_1s : codeB Try.prog E ⟨f, 43, b, ro⟩ n35_1 st = plainS (runOps Try.prog E b q35_1 (ops [false] Try.f35) st) := GE.region_step (id := 0) (GE.reg_of (by kernel_rfl)) (by kernel_rfl)
theorem n35_3s : codeB Try.prog E ⟨f, 43, b, ro⟩ n35_3 st = plainS (runOps Try.prog E b q35_3 (ops [true, false] Try.f35) st) := GE.region_step (id := 1) (GE.reg_of (by kernel_rfl)) (by kernel_rfl)
theorem n35_6s : codeB Try.prog E ⟨f, 43, b, ro⟩ n35_6 st = plainS (runOps Try.prog E b q35_6 (ops [true, true, false, false] Try.f35) st) := GE.region_step (id := 2) (GE.reg_of (by kernel_rfl)) (by kernel_rfl)
theorem q35_11g4 : gd q35_11 4 = some 10 := by kernel_rfl
theorem n35_11s : codeB Try.prog E ⟨f, 43, b, ro⟩ n35_11 st = plainS (runOps Try.prog E b q35_11 (ops [true, true, false, true, false, false, false, false] Try.f35) st) := GE.region_step (id := 3) (GE.reg_of (by kernel_rfl)) (by kernel_rfl)
theorem n35_13s : codeB Try.prog E cx n35_13 st = some (.normal, st) := GE.skip_step (by kernel_rfl)
theorem n35_14s : codeB Try.prog LL ⟨35, 43, b, ro⟩ n35_14 st = normS b ⟨[3], [⟨3, 0, 2, true⟩]⟩ (.exit 0) st := GE.exit_step (by kernel_rfl) (by kernel_rfl)
theorem n35_12s : codeB Try.prog E cx n35_12 st = condS (codeB Try.prog E cx n35_13) (codeB Try.prog E cx n35_14) (lk st.σ 13) st := GE.cond_step (c := .tmp 13) (by kernel_rfl)
theorem n35_10s : codeB Try.prog E cx n35_10 st = thenS (codeB Try.prog E cx n35_11 st) (codeB Try.prog E cx n35_12) := GE.seq_step (by kernel_rfl)
theorem n35_18s : codeB Try.prog E ⟨f, 43, b, ro⟩ n35_18 st = plainS (runOps Try.prog E b q35_18 (ops [true, true, false, true, false, false, true, false, false, false] Try.f35) st) := GE.region_step (id := 5) (GE.reg_of (by kernel_rfl)) (by kernel_rfl)
theorem n35_19s : codeB Try.prog E ⟨f, 43, b, ro⟩ n35_19 st = plainS (runOps Try.prog E b q35_19 (ops [true, true, false, true, false, false, true, false, false, true] Try.f35) st) := GE.region_step (id := 6) (GE.reg_of (by kernel_rfl)) (by kernel_rfl)
theorem n35_17s : codeB Try.prog E cx n35_17 st = thenS (codeB Try.prog E cx n35_18 st) (codeB Try.prog E cx n35_19) := GE.seq_step (by kernel_rfl)
theorem n35_16s : codeB Try.prog E cx n35_16 st = blockS 1 (codeB Try.prog E cx n35_17 st) st := GE.block_step (by kernel_rfl)
theorem n35_20s : codeB Try.prog E ⟨f, 43, b, ro⟩ n35_20 st = plainS (runOps Try.prog E b q35_20 (ops [true, true, false, true, false, false, true, true] Try.f35) st) := GE.region_step (id := 4) (GE.reg_of (by kernel_rfl)) (by kernel_rfl)
theorem n35_15s : codeB Try.prog E cx n35_15 st = thenS (codeB Try.prog E cx n35_16 st) (codeB Try.prog E cx n35_20) := GE.seq_step (by kernel_rfl)
theorem n35_9s : codeB Try.prog E cx n35_9 st = thenS (codeB Try.prog E cx n35_10 st) (codeB Try.prog E cx n35_15) := GE.seq_step (by kernel_rfl)
theorem n35_8k : LL.kp (⟨35, 43, b, ro⟩ : Cx).fn (4 * rid n35_9 + 3) = some ⟨[0, 3, 4], [⟨0, 0, 2, true⟩, ⟨3, 0, 2, true⟩]⟩ := by kernel_rfl
theorem n35_8s : codeB Try.prog LL ⟨35, 43, b, ro⟩ n35_8 st = headS b ⟨[0, 3, 4], [⟨0, 0, 2, true⟩, ⟨3, 0, 2, true⟩]⟩ st (lpB Try.prog LL ⟨35, 43, b, ro⟩ n35_8 n35_9) := GE.lpB_step (by kernel_rfl) (n35_8k b ro)
theorem n35_8g : LL.code ⟨35, 43, b, ro⟩ n35_8 st = headS b ⟨[0, 3, 4], [⟨0, 0, 2, true⟩, ⟨3, 0, 2, true⟩]⟩ st (lpB Try.prog LL ⟨35, 43, b, ro⟩ n35_8 n35_9) := GE.lpB_again (by kernel_rfl) (n35_8k b ro)
theorem n35_7s : codeB Try.prog E cx n35_7 st = blockS 0 (codeB Try.prog E cx n35_8 st) st := GE.block_step (by kernel_rfl)
theorem n35_5s : codeB Try.prog E cx n35_5 st = thenS (codeB Try.prog E cx n35_6 st) (codeB Try.prog E cx n35_7) := GE.seq_step (by kernel_rfl)
theorem n35_23s : codeB Try.prog E ⟨f, 43, b, ro⟩ n35_23 st = plainS (runOps Try.prog E b q35_23 (ops [true, true, true, false, false] Try.f35) st) := GE.region_step (id := 7) (GE.reg_of (by kernel_rfl)) (by kernel_rfl)
theorem n35_25s : codeB Try.prog E ⟨f, 43, b, ro⟩ n35_25 st = plainS (runOps Try.prog E b q35_25 (ops [true, true, true, false, true, false] Try.f35) st) := GE.region_step (id := 8) (GE.reg_of (by kernel_rfl)) (by kernel_rfl)
theorem n35_26s : codeB Try.prog E cx n35_26 st = some (.normal, st) := GE.skip_step (by kernel_rfl)
theorem n35_24s : codeB Try.prog E cx n35_24 st = condS (codeB Try.prog E cx n35_25) (codeB Try.prog E cx n35_26) (lk st.σ 39) st := GE.cond_step (c := .tmp 39) (by kernel_rfl)
theorem n35_22s : codeB Try.prog E cx n35_22 st = thenS (codeB Try.prog E cx n35_23 st) (codeB Try.prog E cx n35_24) := GE.seq_step (by kernel_rfl)
theorem n35_28s : codeB Try.prog E ⟨f, 43, b, ro⟩ n35_28 st = plainS (runOps Try.prog E b q35_28 (ops [true, true, true, true, false] Try.f35) st) := GE.region_step (id := 9) (GE.reg_of (by kernel_rfl)) (by kernel_rfl)
theorem n35_29s : codeB Try.prog LL ⟨35, 43, b, ro⟩ n35_29 st = normS b ⟨[2], [⟨2, 0, 2, true⟩]⟩ .ret st := GE.ret_step (by kernel_rfl) (by kernel_rfl)
theorem n35_27s : codeB Try.prog E cx n35_27 st = thenS (codeB Try.prog E cx n35_28 st) (codeB Try.prog E cx n35_29) := GE.seq_step (by kernel_rfl)
theorem n35_21s : codeB Try.prog E cx n35_21 st = thenS (codeB Try.prog E cx n35_22 st) (codeB Try.prog E cx n35_27) := GE.seq_step (by kernel_rfl)
theorem n35_4s : codeB Try.prog E cx n35_4 st = thenS (codeB Try.prog E cx n35_5 st) (codeB Try.prog E cx n35_21) := GE.seq_step (by kernel_rfl)
theorem n35_2s : codeB Try.prog E cx n35_2 st = thenS (codeB Try.prog E cx n35_3 st) (codeB Try.prog E cx n35_4) := GE.seq_step (by kernel_rfl)
theorem n35_0s : codeB Try.prog E cx n35_0 st = thenS (codeB Try.prog E cx n35_1 st) (codeB Try.prog E cx n35_2) := GE.seq_step (by kernel_rfl)
noncomputable def n37_0 : Code := bodyOf Try.f37
noncomputable def n37_1 : Code := cl n37_0
noncomputable def q37_1 : List Oper := opsOf n37_1
noncomputable def n37_2 : Code := cr n37_0
noncomputable def n37_3 : Code := cl n37_2
noncomputable def n37_4 : Code := cl n37_3
noncomputable def q37_4 : List Oper := opsOf n37_4
noncomputable def n37_5 : Code := cr n37_3
noncomputable def n37_6 : Code := cl n37_5
noncomputable def q37_6 : List Oper := opsOf n37_6
noncomputable def n37_7 : Code := cr n37_5
noncomputable def n37_8 : Code := cl n37_7
noncomputable def n37_9 : Code := cl n37_8
noncomputable def q37_9 : List Oper := opsOf n37_9
noncomputable def n37_10 : Code := cr n37_8
noncomputable def n37_11 : Code := cr n37_7
noncomputable def n37_12 : Code := cr n37_2
noncomputable def n37_13 : Code := cl n37_12
noncomputable def n37_14 : Code := cl n37_13
noncomputable def q37_14 : List Oper := opsOf n37_14
noncomputable def n37_15 : Code := cr n37_13
noncomputable def n37_16 : Code := cl n37_15
noncomputable def q37_16 : List Oper := opsOf n37_16
noncomputable def n37_17 : Code := cr n37_15
noncomputable def n37_18 : Code := cl n37_17
noncomputable def n37_19 : Code := cl n37_18
noncomputable def q37_19 : List Oper := opsOf n37_19
noncomputable def n37_20 : Code := cr n37_18
noncomputable def n37_21 : Code := cr n37_17
noncomputable def n37_22 : Code := cr n37_12
noncomputable def n37_23 : Code := cl n37_22
noncomputable def q37_23 : List Oper := opsOf n37_23
noncomputable def n37_24 : Code := cr n37_22
theorem body37 : Try.f37.body = some n37_0 := by kernel_rfl
theorem run37 (E : Ev) (args : List Value) (h : List Blk) (hl : args.length ≤ 23) : runB Try.prog E 37 args h = endS Try.prog [.tmp 4] h.length (codeB Try.prog E ⟨37, 23, h.length, none⟩ n37_0 ⟨enumT 0 args, h, []⟩) := GE.run_step Try.func37 body37 (by kernel_rfl) (by decide) (by kernel_rfl) hl
theorem n37_1s : codeB Try.prog E ⟨f, 23, b, ro⟩ n37_1 st = plainS (runOps Try.prog E b q37_1 (ops [false] Try.f37) st) := GE.region_step (id := 0) (GE.reg_of (by kernel_rfl)) (by kernel_rfl)
theorem n37_4s : codeB Try.prog E ⟨f, 23, b, ro⟩ n37_4 st = plainS (runOps Try.prog E b q37_4 (ops [true, false, false] Try.f37) st) := GE.region_step (id := 1) (GE.reg_of (by kernel_rfl)) (by kernel_rfl)
theorem n37_6s : codeB Try.prog E ⟨f, 23, b, ro⟩ n37_6 st = plainS (runOps Try.prog E b q37_6 (ops [true, false, true, false] Try.f37) st) := GE.region_step (id := 2) (GE.reg_of (by kernel_rfl)) (by kernel_rfl)
theorem n37_9s : codeB Try.prog E ⟨f, 23, b, ro⟩ n37_9 st = plainS (runOps Try.prog E b q37_9 (ops [true, false, true, true, false, false] Try.f37) st) := GE.region_step (id := 3) (GE.reg_of (by kernel_rfl)) (by kernel_rfl)
theorem n37_10s : codeB Try.prog LL ⟨37, 23, b, ro⟩ n37_10 st = normS b ⟨[4], []⟩ .ret st := GE.ret_step (by kernel_rfl) (by kernel_rfl)
theorem n37_8s : codeB Try.prog E cx n37_8 st = thenS (codeB Try.prog E cx n37_9 st) (codeB Try.prog E cx n37_10) := GE.seq_step (by kernel_rfl)
theorem n37_11s : codeB Try.prog E cx n37_11 st = some (.normal, st) := GE.skip_step (by kernel_rfl)
theorem n37_7s : codeB Try.prog E cx n37_7 st = condS (codeB Try.prog E cx n37_8) (codeB Try.prog E cx n37_11) (lk st.σ 13) st := GE.cond_step (c := .tmp 13) (by kernel_rfl)
theorem n37_5s : codeB Try.prog E cx n37_5 st = thenS (codeB Try.prog E cx n37_6 st) (codeB Try.prog E cx n37_7) := GE.seq_step (by kernel_rfl)
theorem n37_3s : codeB Try.prog E cx n37_3 st = thenS (codeB Try.prog E cx n37_4 st) (codeB Try.prog E cx n37_5) := GE.seq_step (by kernel_rfl)
theorem n37_14s : codeB Try.prog E ⟨f, 23, b, ro⟩ n37_14 st = plainS (runOps Try.prog E b q37_14 (ops [true, true, false, false] Try.f37) st) := GE.region_step (id := 4) (GE.reg_of (by kernel_rfl)) (by kernel_rfl)
theorem n37_16s : codeB Try.prog E ⟨f, 23, b, ro⟩ n37_16 st = plainS (runOps Try.prog E b q37_16 (ops [true, true, false, true, false] Try.f37) st) := GE.region_step (id := 5) (GE.reg_of (by kernel_rfl)) (by kernel_rfl)
theorem n37_19s : codeB Try.prog E ⟨f, 23, b, ro⟩ n37_19 st = plainS (runOps Try.prog E b q37_19 (ops [true, true, false, true, true, false, false] Try.f37) st) := GE.region_step (id := 6) (GE.reg_of (by kernel_rfl)) (by kernel_rfl)
theorem n37_20s : codeB Try.prog LL ⟨37, 23, b, ro⟩ n37_20 st = normS b ⟨[4], []⟩ .ret st := GE.ret_step (by kernel_rfl) (by kernel_rfl)
theorem n37_18s : codeB Try.prog E cx n37_18 st = thenS (codeB Try.prog E cx n37_19 st) (codeB Try.prog E cx n37_20) := GE.seq_step (by kernel_rfl)
theorem n37_21s : codeB Try.prog E cx n37_21 st = some (.normal, st) := GE.skip_step (by kernel_rfl)
theorem n37_17s : codeB Try.prog E cx n37_17 st = condS (codeB Try.prog E cx n37_18) (codeB Try.prog E cx n37_21) (lk st.σ 22) st := GE.cond_step (c := .tmp 22) (by kernel_rfl)
theorem n37_15s : codeB Try.prog E cx n37_15 st = thenS (codeB Try.prog E cx n37_16 st) (codeB Try.prog E cx n37_17) := GE.seq_step (by kernel_rfl)
theorem n37_13s : codeB Try.prog E cx n37_13 st = thenS (codeB Try.prog E cx n37_14 st) (codeB Try.prog E cx n37_15) := GE.seq_step (by kernel_rfl)
theorem n37_23s : codeB Try.prog E ⟨f, 23, b, ro⟩ n37_23 st = plainS (runOps Try.prog E b q37_23 (ops [true, true, true, false] Try.f37) st) := GE.region_step (id := 7) (GE.reg_of (by kernel_rfl)) (by kernel_rfl)
theorem n37_24s : codeB Try.prog LL ⟨37, 23, b, ro⟩ n37_24 st = normS b ⟨[4], []⟩ .ret st := GE.ret_step (by kernel_rfl) (by kernel_rfl)
theorem n37_22s : codeB Try.prog E cx n37_22 st = thenS (codeB Try.prog E cx n37_23 st) (codeB Try.prog E cx n37_24) := GE.seq_step (by kernel_rfl)
theorem n37_12s : codeB Try.prog E cx n37_12 st = thenS (codeB Try.prog E cx n37_13 st) (codeB Try.prog E cx n37_22) := GE.seq_step (by kernel_rfl)
theorem n37_2s : codeB Try.prog E cx n37_2 st = thenS (codeB Try.prog E cx n37_3 st) (codeB Try.prog E cx n37_12) := GE.seq_step (by kernel_rfl)
theorem n37_0s : codeB Try.prog E cx n37_0 st = thenS (codeB Try.prog E cx n37_1 st) (codeB Try.prog E cx n37_2) := GE.seq_step (by kernel_rfl)
noncomputable def n40_0 : Code := bodyOf Try.f40
noncomputable def n40_1 : Code := cl n40_0
noncomputable def q40_1 : List Oper := opsOf n40_1
noncomputable def n40_2 : Code := cr n40_0
noncomputable def n40_3 : Code := cl n40_2
noncomputable def q40_3 : List Oper := opsOf n40_3
noncomputable def n40_4 : Code := cr n40_2
noncomputable def n40_5 : Code := cl n40_4
noncomputable def n40_6 : Code := cl n40_5
noncomputable def q40_6 : List Oper := opsOf n40_6
noncomputable def n40_7 : Code := cr n40_5
noncomputable def n40_8 : Code := cl n40_7
noncomputable def n40_9 : Code := cl n40_8
noncomputable def n40_10 : Code := cl n40_9
noncomputable def n40_11 : Code := cl n40_10
noncomputable def q40_11 : List Oper := opsOf n40_11
noncomputable def n40_12 : Code := cr n40_10
noncomputable def n40_13 : Code := cl n40_12
noncomputable def n40_14 : Code := cr n40_12
noncomputable def n40_15 : Code := cr n40_9
noncomputable def n40_16 : Code := cl n40_15
noncomputable def n40_17 : Code := cl n40_16
noncomputable def q40_17 : List Oper := opsOf n40_17
noncomputable def n40_18 : Code := cr n40_15
noncomputable def q40_18 : List Oper := opsOf n40_18
noncomputable def n40_19 : Code := cr n40_4
noncomputable def n40_20 : Code := cl n40_19
noncomputable def n40_21 : Code := cl n40_20
noncomputable def q40_21 : List Oper := opsOf n40_21
noncomputable def n40_22 : Code := cr n40_20
noncomputable def n40_23 : Code := cl n40_22
noncomputable def n40_24 : Code := cl n40_23
noncomputable def n40_25 : Code := cl n40_24
noncomputable def n40_26 : Code := cl n40_25
noncomputable def q40_26 : List Oper := opsOf n40_26
noncomputable def n40_27 : Code := cr n40_25
noncomputable def n40_28 : Code := cl n40_27
noncomputable def n40_29 : Code := cr n40_27
noncomputable def n40_30 : Code := cr n40_24
noncomputable def n40_31 : Code := cl n40_30
noncomputable def n40_32 : Code := cl n40_31
noncomputable def n40_33 : Code := cl n40_32
noncomputable def q40_33 : List Oper := opsOf n40_33
noncomputable def n40_34 : Code := cr n40_32
noncomputable def n40_35 : Code := cl n40_34
noncomputable def n40_36 : Code := cl n40_35
noncomputable def q40_36 : List Oper := opsOf n40_36
noncomputable def n40_37 : Code := cr n40_35
noncomputable def n40_38 : Code := cl n40_37
noncomputable def q40_38 : List Oper := opsOf n40_38
noncomputable def n40_39 : Code := cr n40_37
noncomputable def n40_40 : Code := cr n40_34
noncomputable def n40_41 : Code := cl n40_40
noncomputable def q40_41 : List Oper := opsOf n40_41
noncomputable def n40_42 : Code := cr n40_40
noncomputable def q40_42 : List Oper := opsOf n40_42
noncomputable def n40_43 : Code := cr n40_30
noncomputable def q40_43 : List Oper := opsOf n40_43
noncomputable def n40_44 : Code := cr n40_19
noncomputable def n40_45 : Code := cl n40_44
noncomputable def q40_45 : List Oper := opsOf n40_45
noncomputable def n40_46 : Code := cr n40_44
theorem body40 : Try.f40.body = some n40_0 := by kernel_rfl
theorem run40 (E : Ev) (args : List Value) (h : List Blk) (hl : args.length ≤ 54) : runB Try.prog E 40 args h = endS Try.prog [.tmp 4] h.length (codeB Try.prog E ⟨40, 54, h.length, none⟩ n40_0 ⟨enumT 0 args, h, []⟩) := GE.run_step Try.func40 body40 (by kernel_rfl) (by decide) (by kernel_rfl) hl
theorem n40_1s : codeB Try.prog E ⟨f, 54, b, ro⟩ n40_1 st = plainS (runOps Try.prog E b q40_1 (ops [false] Try.f40) st) := GE.region_step (id := 0) (GE.reg_of (by kernel_rfl)) (by kernel_rfl)
theorem n40_3s : codeB Try.prog E ⟨f, 54, b, ro⟩ n40_3 st = plainS (runOps Try.prog E b q40_3 (ops [true, false] Try.f40) st) := GE.region_step (id := 1) (GE.reg_of (by kernel_rfl)) (by kernel_rfl)
theorem n40_6s : codeB Try.prog E ⟨f, 54, b, ro⟩ n40_6 st = plainS (runOps Try.prog E b q40_6 (ops [true, true, false, false] Try.f40) st) := GE.region_step (id := 2) (GE.reg_of (by kernel_rfl)) (by kernel_rfl)
theorem n40_11s : codeB Try.prog E ⟨f, 54, b, ro⟩ n40_11 st = plainS (runOps Try.prog E b q40_11 (ops [true, true, false, true, false, false, false, false] Try.f40) st) := GE.region_step (id := 3) (GE.reg_of (by kernel_rfl)) (by kernel_rfl)
theorem n40_13s : codeB Try.prog E cx n40_13 st = some (.normal, st) := GE.skip_step (by kernel_rfl)
theorem n40_14s : codeB Try.prog LL ⟨40, 54, b, ro⟩ n40_14 st = normS b ⟨[1, 5, 6], [⟨1, 0, 1, true⟩, ⟨5, 0, 1, true⟩, ⟨6, 0, 1, true⟩]⟩ (.exit 0) st := GE.exit_step (by kernel_rfl) (by kernel_rfl)
theorem n40_12s : codeB Try.prog E cx n40_12 st = condS (codeB Try.prog E cx n40_13) (codeB Try.prog E cx n40_14) (lk st.σ 12) st := GE.cond_step (c := .tmp 12) (by kernel_rfl)
theorem n40_10s : codeB Try.prog E cx n40_10 st = thenS (codeB Try.prog E cx n40_11 st) (codeB Try.prog E cx n40_12) := GE.seq_step (by kernel_rfl)
theorem n40_17s : codeB Try.prog E ⟨f, 54, b, ro⟩ n40_17 st = plainS (runOps Try.prog E b q40_17 (ops [true, true, false, true, false, false, true, false, false] Try.f40) st) := GE.region_step (id := 5) (GE.reg_of (by kernel_rfl)) (by kernel_rfl)
theorem n40_16s : codeB Try.prog E cx n40_16 st = blockS 1 (codeB Try.prog E cx n40_17 st) st := GE.block_step (by kernel_rfl)
theorem n40_18s : codeB Try.prog E ⟨f, 54, b, ro⟩ n40_18 st = plainS (runOps Try.prog E b q40_18 (ops [true, true, false, true, false, false, true, true] Try.f40) st) := GE.region_step (id := 4) (GE.reg_of (by kernel_rfl)) (by kernel_rfl)
theorem n40_15s : codeB Try.prog E cx n40_15 st = thenS (codeB Try.prog E cx n40_16 st) (codeB Try.prog E cx n40_18) := GE.seq_step (by kernel_rfl)
theorem n40_9s : codeB Try.prog E cx n40_9 st = thenS (codeB Try.prog E cx n40_10 st) (codeB Try.prog E cx n40_15) := GE.seq_step (by kernel_rfl)
theorem n40_8k : LL.kp (⟨40, 54, b, ro⟩ : Cx).fn (4 * rid n40_9 + 3) = some ⟨[0, 1, 5, 6, 7], [⟨1, 0, 1, true⟩, ⟨5, 0, 1, true⟩, ⟨6, 0, 1, true⟩]⟩ := by kernel_rfl
theorem n40_8s : codeB Try.prog LL ⟨40, 54, b, ro⟩ n40_8 st = headS b ⟨[0, 1, 5, 6, 7], [⟨1, 0, 1, true⟩, ⟨5, 0, 1, true⟩, ⟨6, 0, 1, true⟩]⟩ st (lpB Try.prog LL ⟨40, 54, b, ro⟩ n40_8 n40_9) := GE.lpB_step (by kernel_rfl) (n40_8k b ro)
theorem n40_8g : LL.code ⟨40, 54, b, ro⟩ n40_8 st = headS b ⟨[0, 1, 5, 6, 7], [⟨1, 0, 1, true⟩, ⟨5, 0, 1, true⟩, ⟨6, 0, 1, true⟩]⟩ st (lpB Try.prog LL ⟨40, 54, b, ro⟩ n40_8 n40_9) := GE.lpB_again (by kernel_rfl) (n40_8k b ro)
theorem n40_7s : codeB Try.prog E cx n40_7 st = blockS 0 (codeB Try.prog E cx n40_8 st) st := GE.block_step (by kernel_rfl)
theorem n40_5s : codeB Try.prog E cx n40_5 st = thenS (codeB Try.prog E cx n40_6 st) (codeB Try.prog E cx n40_7) := GE.seq_step (by kernel_rfl)
theorem n40_21s : codeB Try.prog E ⟨f, 54, b, ro⟩ n40_21 st = plainS (runOps Try.prog E b q40_21 (ops [true, true, true, false, false] Try.f40) st) := GE.region_step (id := 6) (GE.reg_of (by kernel_rfl)) (by kernel_rfl)
theorem n40_26s : codeB Try.prog E ⟨f, 54, b, ro⟩ n40_26 st = plainS (runOps Try.prog E b q40_26 (ops [true, true, true, false, true, false, false, false, false] Try.f40) st) := GE.region_step (id := 7) (GE.reg_of (by kernel_rfl)) (by kernel_rfl)
theorem n40_28s : codeB Try.prog E cx n40_28 st = some (.normal, st) := GE.skip_step (by kernel_rfl)
theorem n40_29s : codeB Try.prog LL ⟨40, 54, b, ro⟩ n40_29 st = normS b ⟨[6], [⟨6, 0, 1, true⟩]⟩ (.exit 2) st := GE.exit_step (by kernel_rfl) (by kernel_rfl)
theorem n40_27s : codeB Try.prog E cx n40_27 st = condS (codeB Try.prog E cx n40_28) (codeB Try.prog E cx n40_29) (lk st.σ 21) st := GE.cond_step (c := .tmp 21) (by kernel_rfl)
theorem n40_25s : codeB Try.prog E cx n40_25 st = thenS (codeB Try.prog E cx n40_26 st) (codeB Try.prog E cx n40_27) := GE.seq_step (by kernel_rfl)
theorem n40_33s : codeB Try.prog E ⟨f, 54, b, ro⟩ n40_33 st = plainS (runOps Try.prog E b q40_33 (ops [true, true, true, false, true, false, false, true, false, false, false] Try.f40) st) := GE.region_step (id := 9) (GE.reg_of (by kernel_rfl)) (by kernel_rfl)
theorem n40_36s : codeB Try.prog E ⟨f, 54, b, ro⟩ n40_36 st = plainS (runOps Try.prog E b q40_36 (ops [true, true, true, false, true, false, false, true, false, false, true, false, false] Try.f40) st) := GE.region_step (id := 10) (GE.reg_of (by kernel_rfl)) (by kernel_rfl)
theorem n40_38s : codeB Try.prog E ⟨f, 54, b, ro⟩ n40_38 st = plainS (runOps Try.prog E b q40_38 (ops [true, true, true, false, true, false, false, true, false, false, true, false, true, false] Try.f40) st) := GE.region_step (id := 11) (GE.reg_of (by kernel_rfl)) (by kernel_rfl)
theorem n40_39s : codeB Try.prog E cx n40_39 st = some (.normal, st) := GE.skip_step (by kernel_rfl)
theorem n40_37s : codeB Try.prog E cx n40_37 st = condS (codeB Try.prog E cx n40_38) (codeB Try.prog E cx n40_39) (lk st.σ 27) st := GE.cond_step (c := .tmp 27) (by kernel_rfl)
theorem n40_35s : codeB Try.prog E cx n40_35 st = thenS (codeB Try.prog E cx n40_36 st) (codeB Try.prog E cx n40_37) := GE.seq_step (by kernel_rfl)
theorem n40_41s : codeB Try.prog E ⟨f, 54, b, ro⟩ n40_41 st = plainS (runOps Try.prog E b q40_41 (ops [true, true, true, false, true, false, false, true, false, false, true, true, false] Try.f40) st) := GE.region_step (id := 12) (GE.reg_of (by kernel_rfl)) (by kernel_rfl)
theorem n40_42s : codeB Try.prog E ⟨f, 54, b, ro⟩ n40_42 st = drawS [0, 0, 0, 6, 15, 0, 0, 64, 224, 511, 1023] (runOpsF Try.prog E b q40_42 (ops [true, true, true, false, true, false, false, true, false, false, true, true, true] Try.f40) st) := GE.draw_step (id := 13) (GE.reg_of (by kernel_rfl)) (by kernel_rfl) (by kernel_rfl) (by kernel_rfl)
theorem n40_40s : codeB Try.prog E cx n40_40 st = thenS (codeB Try.prog E cx n40_41 st) (codeB Try.prog E cx n40_42) := GE.seq_step (by kernel_rfl)
theorem n40_34s : codeB Try.prog E cx n40_34 st = thenS (codeB Try.prog E cx n40_35 st) (codeB Try.prog E cx n40_40) := GE.seq_step (by kernel_rfl)
theorem n40_32s : codeB Try.prog E cx n40_32 st = thenS (codeB Try.prog E cx n40_33 st) (codeB Try.prog E cx n40_34) := GE.seq_step (by kernel_rfl)
theorem n40_31s : codeB Try.prog E cx n40_31 st = blockS 3 (codeB Try.prog E cx n40_32 st) st := GE.block_step (by kernel_rfl)
theorem n40_43s : codeB Try.prog E ⟨f, 54, b, ro⟩ n40_43 st = plainS (runOps Try.prog E b q40_43 (ops [true, true, true, false, true, false, false, true, true] Try.f40) st) := GE.region_step (id := 8) (GE.reg_of (by kernel_rfl)) (by kernel_rfl)
theorem n40_30s : codeB Try.prog E cx n40_30 st = thenS (codeB Try.prog E cx n40_31 st) (codeB Try.prog E cx n40_43) := GE.seq_step (by kernel_rfl)
theorem n40_24s : codeB Try.prog E cx n40_24 st = thenS (codeB Try.prog E cx n40_25 st) (codeB Try.prog E cx n40_30) := GE.seq_step (by kernel_rfl)
theorem n40_23k : LL.kp (⟨40, 54, b, ro⟩ : Cx).fn (4 * rid n40_24 + 3) = some ⟨[1, 5, 6, 8], [⟨1, 0, 1, true⟩, ⟨5, 0, 1, true⟩, ⟨6, 0, 1, true⟩]⟩ := by kernel_rfl
theorem n40_23s : codeB Try.prog LL ⟨40, 54, b, ro⟩ n40_23 st = headS b ⟨[1, 5, 6, 8], [⟨1, 0, 1, true⟩, ⟨5, 0, 1, true⟩, ⟨6, 0, 1, true⟩]⟩ st (lpB Try.prog LL ⟨40, 54, b, ro⟩ n40_23 n40_24) := GE.lpB_step (by kernel_rfl) (n40_23k b ro)
theorem n40_23g : LL.code ⟨40, 54, b, ro⟩ n40_23 st = headS b ⟨[1, 5, 6, 8], [⟨1, 0, 1, true⟩, ⟨5, 0, 1, true⟩, ⟨6, 0, 1, true⟩]⟩ st (lpB Try.prog LL ⟨40, 54, b, ro⟩ n40_23 n40_24) := GE.lpB_again (by kernel_rfl) (n40_23k b ro)
theorem n40_22s : codeB Try.prog E cx n40_22 st = blockS 2 (codeB Try.prog E cx n40_23 st) st := GE.block_step (by kernel_rfl)
theorem n40_20s : codeB Try.prog E cx n40_20 st = thenS (codeB Try.prog E cx n40_21 st) (codeB Try.prog E cx n40_22) := GE.seq_step (by kernel_rfl)
theorem n40_45s : codeB Try.prog E ⟨f, 54, b, ro⟩ n40_45 st = plainS (runOps Try.prog E b q40_45 (ops [true, true, true, true, false] Try.f40) st) := GE.region_step (id := 14) (GE.reg_of (by kernel_rfl)) (by kernel_rfl)
theorem n40_46s : codeB Try.prog LL ⟨40, 54, b, ro⟩ n40_46 st = normS b ⟨[4], [⟨4, 0, 1, true⟩]⟩ .ret st := GE.ret_step (by kernel_rfl) (by kernel_rfl)
theorem n40_44s : codeB Try.prog E cx n40_44 st = thenS (codeB Try.prog E cx n40_45 st) (codeB Try.prog E cx n40_46) := GE.seq_step (by kernel_rfl)
theorem n40_19s : codeB Try.prog E cx n40_19 st = thenS (codeB Try.prog E cx n40_20 st) (codeB Try.prog E cx n40_44) := GE.seq_step (by kernel_rfl)
theorem n40_4s : codeB Try.prog E cx n40_4 st = thenS (codeB Try.prog E cx n40_5 st) (codeB Try.prog E cx n40_19) := GE.seq_step (by kernel_rfl)
theorem n40_2s : codeB Try.prog E cx n40_2 st = thenS (codeB Try.prog E cx n40_3 st) (codeB Try.prog E cx n40_4) := GE.seq_step (by kernel_rfl)
theorem n40_0s : codeB Try.prog E cx n40_0 st = thenS (codeB Try.prog E cx n40_1 st) (codeB Try.prog E cx n40_2) := GE.seq_step (by kernel_rfl)
noncomputable def n44_0 : Code := bodyOf Try.f44
noncomputable def n44_1 : Code := cl n44_0
noncomputable def q44_1 : List Oper := opsOf n44_1
noncomputable def n44_2 : Code := cr n44_0
noncomputable def n44_3 : Code := cl n44_2
noncomputable def q44_3 : List Oper := opsOf n44_3
noncomputable def n44_4 : Code := cr n44_2
noncomputable def n44_5 : Code := cl n44_4
noncomputable def n44_6 : Code := cl n44_5
noncomputable def q44_6 : List Oper := opsOf n44_6
noncomputable def n44_7 : Code := cr n44_5
noncomputable def n44_8 : Code := cl n44_7
noncomputable def n44_9 : Code := cl n44_8
noncomputable def n44_10 : Code := cl n44_9
noncomputable def n44_11 : Code := cl n44_10
noncomputable def q44_11 : List Oper := opsOf n44_11
noncomputable def n44_12 : Code := cr n44_10
noncomputable def n44_13 : Code := cl n44_12
noncomputable def n44_14 : Code := cr n44_12
noncomputable def n44_15 : Code := cr n44_9
noncomputable def n44_16 : Code := cl n44_15
noncomputable def n44_17 : Code := cl n44_16
noncomputable def q44_17 : List Oper := opsOf n44_17
noncomputable def n44_18 : Code := cr n44_15
noncomputable def q44_18 : List Oper := opsOf n44_18
noncomputable def n44_19 : Code := cr n44_4
noncomputable def n44_20 : Code := cl n44_19
noncomputable def q44_20 : List Oper := opsOf n44_20
noncomputable def n44_21 : Code := cr n44_19
theorem body44 : Try.f44.body = some n44_0 := by kernel_rfl
theorem run44 (E : Ev) (args : List Value) (h : List Blk) (hl : args.length ≤ 26) : runB Try.prog E 44 args h = endS Try.prog [.tmp 2] h.length (codeB Try.prog E ⟨44, 26, h.length, none⟩ n44_0 ⟨enumT 0 args, h, []⟩) := GE.run_step Try.func44 body44 (by kernel_rfl) (by decide) (by kernel_rfl) hl
theorem n44_1s : codeB Try.prog E ⟨f, 26, b, ro⟩ n44_1 st = plainS (runOps Try.prog E b q44_1 (ops [false] Try.f44) st) := GE.region_step (id := 0) (GE.reg_of (by kernel_rfl)) (by kernel_rfl)
theorem n44_3s : codeB Try.prog E ⟨f, 26, b, ro⟩ n44_3 st = plainS (runOps Try.prog E b q44_3 (ops [true, false] Try.f44) st) := GE.region_step (id := 1) (GE.reg_of (by kernel_rfl)) (by kernel_rfl)
theorem n44_6s : codeB Try.prog E ⟨f, 26, b, ro⟩ n44_6 st = plainS (runOps Try.prog E b q44_6 (ops [true, true, false, false] Try.f44) st) := GE.region_step (id := 2) (GE.reg_of (by kernel_rfl)) (by kernel_rfl)
theorem n44_11s : codeB Try.prog E ⟨f, 26, b, ro⟩ n44_11 st = plainS (runOps Try.prog E b q44_11 (ops [true, true, false, true, false, false, false, false] Try.f44) st) := GE.region_step (id := 3) (GE.reg_of (by kernel_rfl)) (by kernel_rfl)
theorem n44_13s : codeB Try.prog E cx n44_13 st = some (.normal, st) := GE.skip_step (by kernel_rfl)
theorem n44_14s : codeB Try.prog LL ⟨44, 26, b, ro⟩ n44_14 st = normS b ⟨[3], [⟨3, 0, 2, true⟩]⟩ (.exit 0) st := GE.exit_step (by kernel_rfl) (by kernel_rfl)
theorem n44_12s : codeB Try.prog E cx n44_12 st = condS (codeB Try.prog E cx n44_13) (codeB Try.prog E cx n44_14) (lk st.σ 9) st := GE.cond_step (c := .tmp 9) (by kernel_rfl)
theorem n44_10s : codeB Try.prog E cx n44_10 st = thenS (codeB Try.prog E cx n44_11 st) (codeB Try.prog E cx n44_12) := GE.seq_step (by kernel_rfl)
theorem n44_17s : codeB Try.prog E ⟨f, 26, b, ro⟩ n44_17 st = drawS [0, 0, 0, 6, 14, 0, 0, 64, 224, 480, 1022, 2046, 4095, 8191] (runOpsF Try.prog E b q44_17 (ops [true, true, false, true, false, false, true, false, false] Try.f44) st) := GE.draw_step (id := 5) (GE.reg_of (by kernel_rfl)) (by kernel_rfl) (by kernel_rfl) (by kernel_rfl)
theorem n44_16s : codeB Try.prog E cx n44_16 st = blockS 1 (codeB Try.prog E cx n44_17 st) st := GE.block_step (by kernel_rfl)
theorem n44_18s : codeB Try.prog E ⟨f, 26, b, ro⟩ n44_18 st = plainS (runOps Try.prog E b q44_18 (ops [true, true, false, true, false, false, true, true] Try.f44) st) := GE.region_step (id := 4) (GE.reg_of (by kernel_rfl)) (by kernel_rfl)
theorem n44_15s : codeB Try.prog E cx n44_15 st = thenS (codeB Try.prog E cx n44_16 st) (codeB Try.prog E cx n44_18) := GE.seq_step (by kernel_rfl)
theorem n44_9s : codeB Try.prog E cx n44_9 st = thenS (codeB Try.prog E cx n44_10 st) (codeB Try.prog E cx n44_15) := GE.seq_step (by kernel_rfl)
theorem n44_8k : LL.kp (⟨44, 26, b, ro⟩ : Cx).fn (4 * rid n44_9 + 3) = some ⟨[0, 3, 4], [⟨0, 0, 1, true⟩, ⟨3, 0, 2, true⟩]⟩ := by kernel_rfl
theorem n44_8s : codeB Try.prog LL ⟨44, 26, b, ro⟩ n44_8 st = headS b ⟨[0, 3, 4], [⟨0, 0, 1, true⟩, ⟨3, 0, 2, true⟩]⟩ st (lpB Try.prog LL ⟨44, 26, b, ro⟩ n44_8 n44_9) := GE.lpB_step (by kernel_rfl) (n44_8k b ro)
theorem n44_8g : LL.code ⟨44, 26, b, ro⟩ n44_8 st = headS b ⟨[0, 3, 4], [⟨0, 0, 1, true⟩, ⟨3, 0, 2, true⟩]⟩ st (lpB Try.prog LL ⟨44, 26, b, ro⟩ n44_8 n44_9) := GE.lpB_again (by kernel_rfl) (n44_8k b ro)
theorem n44_7s : codeB Try.prog E cx n44_7 st = blockS 0 (codeB Try.prog E cx n44_8 st) st := GE.block_step (by kernel_rfl)
theorem n44_5s : codeB Try.prog E cx n44_5 st = thenS (codeB Try.prog E cx n44_6 st) (codeB Try.prog E cx n44_7) := GE.seq_step (by kernel_rfl)
theorem n44_20s : codeB Try.prog E ⟨f, 26, b, ro⟩ n44_20 st = plainS (runOps Try.prog E b q44_20 (ops [true, true, true, false] Try.f44) st) := GE.region_step (id := 6) (GE.reg_of (by kernel_rfl)) (by kernel_rfl)
theorem n44_21s : codeB Try.prog LL ⟨44, 26, b, ro⟩ n44_21 st = normS b ⟨[2], [⟨2, 0, 2, true⟩]⟩ .ret st := GE.ret_step (by kernel_rfl) (by kernel_rfl)
theorem n44_19s : codeB Try.prog E cx n44_19 st = thenS (codeB Try.prog E cx n44_20 st) (codeB Try.prog E cx n44_21) := GE.seq_step (by kernel_rfl)
theorem n44_4s : codeB Try.prog E cx n44_4 st = thenS (codeB Try.prog E cx n44_5 st) (codeB Try.prog E cx n44_19) := GE.seq_step (by kernel_rfl)
theorem n44_2s : codeB Try.prog E cx n44_2 st = thenS (codeB Try.prog E cx n44_3 st) (codeB Try.prog E cx n44_4) := GE.seq_step (by kernel_rfl)
theorem n44_0s : codeB Try.prog E cx n44_0 st = thenS (codeB Try.prog E cx n44_1 st) (codeB Try.prog E cx n44_2) := GE.seq_step (by kernel_rfl)
noncomputable def n45_0 : Code := bodyOf Try.f45
noncomputable def n45_1 : Code := cl n45_0
noncomputable def q45_1 : List Oper := opsOf n45_1
noncomputable def n45_2 : Code := cr n45_0
noncomputable def n45_3 : Code := cl n45_2
noncomputable def n45_4 : Code := cl n45_3
noncomputable def n45_5 : Code := cl n45_4
noncomputable def q45_5 : List Oper := opsOf n45_5
noncomputable def n45_6 : Code := cr n45_4
noncomputable def n45_7 : Code := cl n45_6
noncomputable def n45_8 : Code := cl n45_7
noncomputable def q45_8 : List Oper := opsOf n45_8
noncomputable def n45_9 : Code := cr n45_7
noncomputable def n45_10 : Code := cr n45_6
noncomputable def n45_11 : Code := cl n45_10
noncomputable def q45_11 : List Oper := opsOf n45_11
noncomputable def n45_12 : Code := cr n45_10
noncomputable def n45_13 : Code := cl n45_12
noncomputable def n45_14 : Code := cl n45_13
noncomputable def q45_14 : List Oper := opsOf n45_14
noncomputable def n45_15 : Code := cr n45_13
noncomputable def n45_16 : Code := cr n45_12
noncomputable def n45_17 : Code := cl n45_16
noncomputable def q45_17 : List Oper := opsOf n45_17
noncomputable def n45_18 : Code := cr n45_16
noncomputable def n45_19 : Code := cl n45_18
noncomputable def n45_20 : Code := cl n45_19
noncomputable def q45_20 : List Oper := opsOf n45_20
noncomputable def n45_21 : Code := cr n45_19
noncomputable def n45_22 : Code := cr n45_18
noncomputable def n45_23 : Code := cr n45_2
noncomputable def n45_24 : Code := cl n45_23
noncomputable def q45_24 : List Oper := opsOf n45_24
noncomputable def n45_25 : Code := cr n45_23
theorem body45 : Try.f45.body = some n45_0 := by kernel_rfl
theorem run45 (E : Ev) (args : List Value) (h : List Blk) (hl : args.length ≤ 14) : runB Try.prog E 45 args h = endS Try.prog [.tmp 2] h.length (codeB Try.prog E ⟨45, 14, h.length, none⟩ n45_0 ⟨enumT 0 args, h, []⟩) := GE.run_step Try.func45 body45 (by kernel_rfl) (by decide) (by kernel_rfl) hl
theorem n45_1s : codeB Try.prog E ⟨f, 14, b, ro⟩ n45_1 st = plainS (runOps Try.prog E b q45_1 (ops [false] Try.f45) st) := GE.region_step (id := 0) (GE.reg_of (by kernel_rfl)) (by kernel_rfl)
theorem n45_5s : codeB Try.prog E ⟨f, 14, b, ro⟩ n45_5 st = plainS (runOps Try.prog E b q45_5 (ops [true, false, false, false] Try.f45) st) := GE.region_step (id := 1) (GE.reg_of (by kernel_rfl)) (by kernel_rfl)
theorem n45_8s : codeB Try.prog E ⟨f, 14, b, ro⟩ n45_8 st = plainS (runOps Try.prog E b q45_8 (ops [true, false, false, true, false, false] Try.f45) st) := GE.region_step (id := 2) (GE.reg_of (by kernel_rfl)) (by kernel_rfl)
theorem n45_9s : codeB Try.prog LL ⟨45, 14, b, ro⟩ n45_9 st = normS b ⟨[2], []⟩ .ret st := GE.ret_step (by kernel_rfl) (by kernel_rfl)
theorem n45_7s : codeB Try.prog E cx n45_7 st = thenS (codeB Try.prog E cx n45_8 st) (codeB Try.prog E cx n45_9) := GE.seq_step (by kernel_rfl)
theorem n45_11s : codeB Try.prog E ⟨f, 14, b, ro⟩ n45_11 st = plainS (runOps Try.prog E b q45_11 (ops [true, false, false, true, true, false] Try.f45) st) := GE.region_step (id := 3) (GE.reg_of (by kernel_rfl)) (by kernel_rfl)
theorem n45_14s : codeB Try.prog E ⟨f, 14, b, ro⟩ n45_14 st = plainS (runOps Try.prog E b q45_14 (ops [true, false, false, true, true, true, false, false] Try.f45) st) := GE.region_step (id := 4) (GE.reg_of (by kernel_rfl)) (by kernel_rfl)
theorem n45_15s : codeB Try.prog LL ⟨45, 14, b, ro⟩ n45_15 st = normS b ⟨[2], []⟩ .ret st := GE.ret_step (by kernel_rfl) (by kernel_rfl)
theorem n45_13s : codeB Try.prog E cx n45_13 st = thenS (codeB Try.prog E cx n45_14 st) (codeB Try.prog E cx n45_15) := GE.seq_step (by kernel_rfl)
theorem n45_17s : codeB Try.prog E ⟨f, 14, b, ro⟩ n45_17 st = plainS (runOps Try.prog E b q45_17 (ops [true, false, false, true, true, true, true, false] Try.f45) st) := GE.region_step (id := 5) (GE.reg_of (by kernel_rfl)) (by kernel_rfl)
theorem n45_20s : codeB Try.prog E ⟨f, 14, b, ro⟩ n45_20 st = plainS (runOps Try.prog E b q45_20 (ops [true, false, false, true, true, true, true, true, false, false] Try.f45) st) := GE.region_step (id := 6) (GE.reg_of (by kernel_rfl)) (by kernel_rfl)
theorem n45_21s : codeB Try.prog LL ⟨45, 14, b, ro⟩ n45_21 st = normS b ⟨[2], []⟩ .ret st := GE.ret_step (by kernel_rfl) (by kernel_rfl)
theorem n45_19s : codeB Try.prog E cx n45_19 st = thenS (codeB Try.prog E cx n45_20 st) (codeB Try.prog E cx n45_21) := GE.seq_step (by kernel_rfl)
theorem n45_22s : codeB Try.prog E cx n45_22 st = some (.normal, st) := GE.skip_step (by kernel_rfl)
theorem n45_18s : codeB Try.prog E cx n45_18 st = condS (codeB Try.prog E cx n45_19) (codeB Try.prog E cx n45_22) (lk st.σ 11) st := GE.cond_step (c := .tmp 11) (by kernel_rfl)
theorem n45_16s : codeB Try.prog E cx n45_16 st = thenS (codeB Try.prog E cx n45_17 st) (codeB Try.prog E cx n45_18) := GE.seq_step (by kernel_rfl)
theorem n45_12s : codeB Try.prog E cx n45_12 st = condS (codeB Try.prog E cx n45_13) (codeB Try.prog E cx n45_16) (lk st.σ 7) st := GE.cond_step (c := .tmp 7) (by kernel_rfl)
theorem n45_10s : codeB Try.prog E cx n45_10 st = thenS (codeB Try.prog E cx n45_11 st) (codeB Try.prog E cx n45_12) := GE.seq_step (by kernel_rfl)
theorem n45_6s : codeB Try.prog E cx n45_6 st = condS (codeB Try.prog E cx n45_7) (codeB Try.prog E cx n45_10) (lk st.σ 3) st := GE.cond_step (c := .tmp 3) (by kernel_rfl)
theorem n45_4s : codeB Try.prog E cx n45_4 st = thenS (codeB Try.prog E cx n45_5 st) (codeB Try.prog E cx n45_6) := GE.seq_step (by kernel_rfl)
theorem n45_3s : codeB Try.prog E cx n45_3 st = blockS 0 (codeB Try.prog E cx n45_4 st) st := GE.block_step (by kernel_rfl)
theorem n45_24s : codeB Try.prog E ⟨f, 14, b, ro⟩ n45_24 st = plainS (runOps Try.prog E b q45_24 (ops [true, true, false] Try.f45) st) := GE.region_step (id := 7) (GE.reg_of (by kernel_rfl)) (by kernel_rfl)
theorem n45_25s : codeB Try.prog LL ⟨45, 14, b, ro⟩ n45_25 st = normS b ⟨[2], []⟩ .ret st := GE.ret_step (by kernel_rfl) (by kernel_rfl)
theorem n45_23s : codeB Try.prog E cx n45_23 st = thenS (codeB Try.prog E cx n45_24 st) (codeB Try.prog E cx n45_25) := GE.seq_step (by kernel_rfl)
theorem n45_2s : codeB Try.prog E cx n45_2 st = thenS (codeB Try.prog E cx n45_3 st) (codeB Try.prog E cx n45_23) := GE.seq_step (by kernel_rfl)
theorem n45_0s : codeB Try.prog E cx n45_0 st = thenS (codeB Try.prog E cx n45_1 st) (codeB Try.prog E cx n45_2) := GE.seq_step (by kernel_rfl)
noncomputable def n53_0 : Code := bodyOf Try.f53
noncomputable def n53_1 : Code := cl n53_0
noncomputable def q53_1 : List Oper := opsOf n53_1
noncomputable def n53_2 : Code := cr n53_0
noncomputable def n53_3 : Code := cl n53_2
noncomputable def n53_4 : Code := cl n53_3
noncomputable def q53_4 : List Oper := opsOf n53_4
noncomputable def n53_5 : Code := cr n53_3
noncomputable def n53_6 : Code := cl n53_5
noncomputable def n53_7 : Code := cl n53_6
noncomputable def q53_7 : List Oper := opsOf n53_7
noncomputable def n53_8 : Code := cr n53_6
noncomputable def n53_9 : Code := cr n53_5
noncomputable def n53_10 : Code := cr n53_2
noncomputable def n53_11 : Code := cl n53_10
noncomputable def q53_11 : List Oper := opsOf n53_11
noncomputable def n53_12 : Code := cr n53_10
noncomputable def n53_13 : Code := cl n53_12
noncomputable def n53_14 : Code := cl n53_13
noncomputable def q53_14 : List Oper := opsOf n53_14
noncomputable def n53_15 : Code := cr n53_13
noncomputable def n53_16 : Code := cl n53_15
noncomputable def n53_17 : Code := cl n53_16
noncomputable def n53_18 : Code := cl n53_17
noncomputable def q53_18 : List Oper := opsOf n53_18
noncomputable def n53_19 : Code := cr n53_17
noncomputable def n53_20 : Code := cl n53_19
noncomputable def n53_21 : Code := cl n53_20
noncomputable def n53_22 : Code := cr n53_20
noncomputable def n53_23 : Code := cr n53_19
noncomputable def n53_24 : Code := cl n53_23
noncomputable def n53_25 : Code := cl n53_24
noncomputable def n53_26 : Code := cl n53_25
noncomputable def q53_26 : List Oper := opsOf n53_26
noncomputable def n53_27 : Code := cr n53_25
noncomputable def n53_28 : Code := cl n53_27
noncomputable def q53_28 : List Oper := opsOf n53_28
noncomputable def n53_29 : Code := cr n53_27
noncomputable def n53_30 : Code := cl n53_29
noncomputable def n53_31 : Code := cl n53_30
noncomputable def q53_31 : List Oper := opsOf n53_31
noncomputable def n53_32 : Code := cr n53_30
noncomputable def n53_33 : Code := cr n53_29
noncomputable def n53_34 : Code := cr n53_23
noncomputable def q53_34 : List Oper := opsOf n53_34
noncomputable def n53_35 : Code := cr n53_12
noncomputable def n53_36 : Code := cl n53_35
noncomputable def q53_36 : List Oper := opsOf n53_36
noncomputable def n53_37 : Code := cr n53_35
theorem body53 : Try.f53.body = some n53_0 := by kernel_rfl
theorem run53 (E : Ev) (args : List Value) (h : List Blk) (hl : args.length ≤ 30) : runB Try.prog E 53 args h = endS Try.prog [.tmp 6] h.length (codeB Try.prog E ⟨53, 30, h.length, none⟩ n53_0 ⟨enumT 0 args, h, []⟩) := GE.run_step Try.func53 body53 (by kernel_rfl) (by decide) (by kernel_rfl) hl
theorem n53_1s : codeB Try.prog E ⟨f, 30, b, ro⟩ n53_1 st = plainS (runOps Try.prog E b q53_1 (ops [false] Try.f53) st) := GE.region_step (id := 0) (GE.reg_of (by kernel_rfl)) (by kernel_rfl)
theorem n53_4s : codeB Try.prog E ⟨f, 30, b, ro⟩ n53_4 st = plainS (runOps Try.prog E b q53_4 (ops [true, false, false] Try.f53) st) := GE.region_step (id := 1) (GE.reg_of (by kernel_rfl)) (by kernel_rfl)
theorem n53_7s : codeB Try.prog E ⟨f, 30, b, ro⟩ n53_7 st = plainS (runOps Try.prog E b q53_7 (ops [true, false, true, false, false] Try.f53) st) := GE.region_step (id := 2) (GE.reg_of (by kernel_rfl)) (by kernel_rfl)
theorem n53_8s : codeB Try.prog LL ⟨53, 30, b, ro⟩ n53_8 st = normS b ⟨[6], []⟩ .ret st := GE.ret_step (by kernel_rfl) (by kernel_rfl)
theorem n53_6s : codeB Try.prog E cx n53_6 st = thenS (codeB Try.prog E cx n53_7 st) (codeB Try.prog E cx n53_8) := GE.seq_step (by kernel_rfl)
theorem n53_9s : codeB Try.prog E cx n53_9 st = some (.normal, st) := GE.skip_step (by kernel_rfl)
theorem n53_5s : codeB Try.prog E cx n53_5 st = condS (codeB Try.prog E cx n53_6) (codeB Try.prog E cx n53_9) (lk st.σ 11) st := GE.cond_step (c := .tmp 11) (by kernel_rfl)
theorem n53_3s : codeB Try.prog E cx n53_3 st = thenS (codeB Try.prog E cx n53_4 st) (codeB Try.prog E cx n53_5) := GE.seq_step (by kernel_rfl)
theorem n53_11s : codeB Try.prog E ⟨f, 30, b, ro⟩ n53_11 st = plainS (runOps Try.prog E b q53_11 (ops [true, true, false] Try.f53) st) := GE.region_step (id := 3) (GE.reg_of (by kernel_rfl)) (by kernel_rfl)
theorem n53_14s : codeB Try.prog E ⟨f, 30, b, ro⟩ n53_14 st = plainS (runOps Try.prog E b q53_14 (ops [true, true, true, false, false] Try.f53) st) := GE.region_step (id := 4) (GE.reg_of (by kernel_rfl)) (by kernel_rfl)
theorem n53_18s : codeB Try.prog E ⟨f, 30, b, ro⟩ n53_18 st = plainS (runOps Try.prog E b q53_18 (ops [true, true, true, false, true, false, false, false] Try.f53) st) := GE.region_step (id := 5) (GE.reg_of (by kernel_rfl)) (by kernel_rfl)
theorem n53_21s : codeB Try.prog E cx n53_21 st = some (.normal, st) := GE.skip_step (by kernel_rfl)
theorem n53_22s : codeB Try.prog LL ⟨53, 30, b, ro⟩ n53_22 st = normS b ⟨[], []⟩ (.exit 0) st := GE.exit_step (by kernel_rfl) (by kernel_rfl)
theorem n53_20s : codeB Try.prog E cx n53_20 st = condS (codeB Try.prog E cx n53_21) (codeB Try.prog E cx n53_22) (lk st.σ 17) st := GE.cond_step (c := .tmp 17) (by kernel_rfl)
theorem n53_26s : codeB Try.prog E ⟨f, 30, b, ro⟩ n53_26 st = plainS (runOps Try.prog E b q53_26 (ops [true, true, true, false, true, false, false, true, true, false, false, false] Try.f53) st) := GE.region_step (id := 6) (GE.reg_of (by kernel_rfl)) (by kernel_rfl)
theorem q53_28g4 : gd q53_28 4 = some 23 := by kernel_rfl
theorem n53_28s : codeB Try.prog E ⟨f, 30, b, ro⟩ n53_28 st = plainS (runOps Try.prog E b q53_28 (ops [true, true, true, false, true, false, false, true, true, false, false, true, false] Try.f53) st) := GE.region_step (id := 7) (GE.reg_of (by kernel_rfl)) (by kernel_rfl)
theorem n53_31s : codeB Try.prog E ⟨f, 30, b, ro⟩ n53_31 st = plainS (runOps Try.prog E b q53_31 (ops [true, true, true, false, true, false, false, true, true, false, false, true, true, false, false] Try.f53) st) := GE.region_step (id := 8) (GE.reg_of (by kernel_rfl)) (by kernel_rfl)
theorem n53_32s : codeB Try.prog LL ⟨53, 30, b, ro⟩ n53_32 st = normS b ⟨[6], []⟩ .ret st := GE.ret_step (by kernel_rfl) (by kernel_rfl)
theorem n53_30s : codeB Try.prog E cx n53_30 st = thenS (codeB Try.prog E cx n53_31 st) (codeB Try.prog E cx n53_32) := GE.seq_step (by kernel_rfl)
theorem n53_33s : codeB Try.prog E cx n53_33 st = some (.normal, st) := GE.skip_step (by kernel_rfl)
theorem n53_29s : codeB Try.prog E cx n53_29 st = condS (codeB Try.prog E cx n53_30) (codeB Try.prog E cx n53_33) (lk st.σ 28) st := GE.cond_step (c := .tmp 28) (by kernel_rfl)
theorem n53_27s : codeB Try.prog E cx n53_27 st = thenS (codeB Try.prog E cx n53_28 st) (codeB Try.prog E cx n53_29) := GE.seq_step (by kernel_rfl)
theorem n53_25s : codeB Try.prog E cx n53_25 st = thenS (codeB Try.prog E cx n53_26 st) (codeB Try.prog E cx n53_27) := GE.seq_step (by kernel_rfl)
theorem n53_24s : codeB Try.prog E cx n53_24 st = blockS 1 (codeB Try.prog E cx n53_25 st) st := GE.block_step (by kernel_rfl)
theorem n53_34s : codeB Try.prog E ⟨f, 30, b, ro⟩ n53_34 st = plainS (runOps Try.prog E b q53_34 (ops [true, true, true, false, true, false, false, true, true, true] Try.f53) st) := GE.region_step (id := 9) (GE.reg_of (by kernel_rfl)) (by kernel_rfl)
theorem n53_23s : codeB Try.prog E cx n53_23 st = thenS (codeB Try.prog E cx n53_24 st) (codeB Try.prog E cx n53_34) := GE.seq_step (by kernel_rfl)
theorem n53_19s : codeB Try.prog E cx n53_19 st = thenS (codeB Try.prog E cx n53_20 st) (codeB Try.prog E cx n53_23) := GE.seq_step (by kernel_rfl)
theorem n53_17s : codeB Try.prog E cx n53_17 st = thenS (codeB Try.prog E cx n53_18 st) (codeB Try.prog E cx n53_19) := GE.seq_step (by kernel_rfl)
theorem n53_16k : LL.kp (⟨53, 30, b, ro⟩ : Cx).fn (4 * rid n53_17 + 3) = some ⟨[1, 2, 7, 15, 16], []⟩ := by kernel_rfl
theorem n53_16s : codeB Try.prog LL ⟨53, 30, b, ro⟩ n53_16 st = headS b ⟨[1, 2, 7, 15, 16], []⟩ st (lpB Try.prog LL ⟨53, 30, b, ro⟩ n53_16 n53_17) := GE.lpB_step (by kernel_rfl) (n53_16k b ro)
theorem n53_16g : LL.code ⟨53, 30, b, ro⟩ n53_16 st = headS b ⟨[1, 2, 7, 15, 16], []⟩ st (lpB Try.prog LL ⟨53, 30, b, ro⟩ n53_16 n53_17) := GE.lpB_again (by kernel_rfl) (n53_16k b ro)
theorem n53_15s : codeB Try.prog E cx n53_15 st = blockS 0 (codeB Try.prog E cx n53_16 st) st := GE.block_step (by kernel_rfl)
theorem n53_13s : codeB Try.prog E cx n53_13 st = thenS (codeB Try.prog E cx n53_14 st) (codeB Try.prog E cx n53_15) := GE.seq_step (by kernel_rfl)
theorem n53_36s : codeB Try.prog E ⟨f, 30, b, ro⟩ n53_36 st = plainS (runOps Try.prog E b q53_36 (ops [true, true, true, true, false] Try.f53) st) := GE.region_step (id := 10) (GE.reg_of (by kernel_rfl)) (by kernel_rfl)
theorem n53_37s : codeB Try.prog LL ⟨53, 30, b, ro⟩ n53_37 st = normS b ⟨[6], []⟩ .ret st := GE.ret_step (by kernel_rfl) (by kernel_rfl)
theorem n53_35s : codeB Try.prog E cx n53_35 st = thenS (codeB Try.prog E cx n53_36 st) (codeB Try.prog E cx n53_37) := GE.seq_step (by kernel_rfl)
theorem n53_12s : codeB Try.prog E cx n53_12 st = thenS (codeB Try.prog E cx n53_13 st) (codeB Try.prog E cx n53_35) := GE.seq_step (by kernel_rfl)
theorem n53_10s : codeB Try.prog E cx n53_10 st = thenS (codeB Try.prog E cx n53_11 st) (codeB Try.prog E cx n53_12) := GE.seq_step (by kernel_rfl)
theorem n53_2s : codeB Try.prog E cx n53_2 st = thenS (codeB Try.prog E cx n53_3 st) (codeB Try.prog E cx n53_10) := GE.seq_step (by kernel_rfl)
theorem n53_0s : codeB Try.prog E cx n53_0 st = thenS (codeB Try.prog E cx n53_1 st) (codeB Try.prog E cx n53_2) := GE.seq_step (by kernel_rfl)
noncomputable def n54_0 : Code := bodyOf Try.f54
noncomputable def n54_1 : Code := cl n54_0
noncomputable def q54_1 : List Oper := opsOf n54_1
noncomputable def n54_2 : Code := cr n54_0
noncomputable def n54_3 : Code := cl n54_2
noncomputable def q54_3 : List Oper := opsOf n54_3
noncomputable def n54_4 : Code := cr n54_2
theorem body54 : Try.f54.body = some n54_0 := by kernel_rfl
theorem run54 (E : Ev) (args : List Value) (h : List Blk) (hl : args.length ≤ 9) : runB Try.prog E 54 args h = endS Try.prog [.tmp 4] h.length (codeB Try.prog E ⟨54, 9, h.length, none⟩ n54_0 ⟨enumT 0 args, h, []⟩) := GE.run_step Try.func54 body54 (by kernel_rfl) (by decide) (by kernel_rfl) hl
theorem n54_1s : codeB Try.prog E ⟨f, 9, b, ro⟩ n54_1 st = plainS (runOps Try.prog E b q54_1 (ops [false] Try.f54) st) := GE.region_step (id := 0) (GE.reg_of (by kernel_rfl)) (by kernel_rfl)
theorem n54_3s : codeB Try.prog E ⟨f, 9, b, ro⟩ n54_3 st = plainS (runOps Try.prog E b q54_3 (ops [true, false] Try.f54) st) := GE.region_step (id := 1) (GE.reg_of (by kernel_rfl)) (by kernel_rfl)
theorem n54_4s : codeB Try.prog LL ⟨54, 9, b, ro⟩ n54_4 st = normS b ⟨[4], []⟩ .ret st := GE.ret_step (by kernel_rfl) (by kernel_rfl)
theorem n54_2s : codeB Try.prog E cx n54_2 st = thenS (codeB Try.prog E cx n54_3 st) (codeB Try.prog E cx n54_4) := GE.seq_step (by kernel_rfl)
theorem n54_0s : codeB Try.prog E cx n54_0 st = thenS (codeB Try.prog E cx n54_1 st) (codeB Try.prog E cx n54_2) := GE.seq_step (by kernel_rfl)
noncomputable def n57_0 : Code := bodyOf Try.f57
noncomputable def n57_1 : Code := cl n57_0
noncomputable def q57_1 : List Oper := opsOf n57_1
noncomputable def n57_2 : Code := cr n57_0
noncomputable def n57_3 : Code := cl n57_2
noncomputable def q57_3 : List Oper := opsOf n57_3
noncomputable def n57_4 : Code := cr n57_2
theorem body57 : Try.f57.body = some n57_0 := by kernel_rfl
theorem run57 (E : Ev) (args : List Value) (h : List Blk) (hl : args.length ≤ 15) : runB Try.prog E 57 args h = endS Try.prog [.tmp 6] h.length (codeB Try.prog E ⟨57, 15, h.length, none⟩ n57_0 ⟨enumT 0 args, h, []⟩) := GE.run_step Try.func57 body57 (by kernel_rfl) (by decide) (by kernel_rfl) hl
theorem n57_1s : codeB Try.prog E ⟨f, 15, b, ro⟩ n57_1 st = plainS (runOps Try.prog E b q57_1 (ops [false] Try.f57) st) := GE.region_step (id := 0) (GE.reg_of (by kernel_rfl)) (by kernel_rfl)
theorem q57_3g3 : gd q57_3 3 = some 10 := by kernel_rfl
theorem n57_3s : codeB Try.prog E ⟨f, 15, b, ro⟩ n57_3 st = plainS (runOps Try.prog E b q57_3 (ops [true, false] Try.f57) st) := GE.region_step (id := 1) (GE.reg_of (by kernel_rfl)) (by kernel_rfl)
theorem n57_4s : codeB Try.prog LL ⟨57, 15, b, ro⟩ n57_4 st = normS b ⟨[6], []⟩ .ret st := GE.ret_step (by kernel_rfl) (by kernel_rfl)
theorem n57_2s : codeB Try.prog E cx n57_2 st = thenS (codeB Try.prog E cx n57_3 st) (codeB Try.prog E cx n57_4) := GE.seq_step (by kernel_rfl)
theorem n57_0s : codeB Try.prog E cx n57_0 st = thenS (codeB Try.prog E cx n57_1 st) (codeB Try.prog E cx n57_2) := GE.seq_step (by kernel_rfl)
noncomputable def n59_0 : Code := bodyOf Try.f59
noncomputable def n59_1 : Code := cl n59_0
noncomputable def q59_1 : List Oper := opsOf n59_1
noncomputable def n59_2 : Code := cr n59_0
noncomputable def n59_3 : Code := cl n59_2
noncomputable def q59_3 : List Oper := opsOf n59_3
noncomputable def n59_4 : Code := cr n59_2
noncomputable def n59_5 : Code := cl n59_4
noncomputable def n59_6 : Code := cl n59_5
noncomputable def n59_7 : Code := cl n59_6
noncomputable def q59_7 : List Oper := opsOf n59_7
noncomputable def n59_8 : Code := cr n59_6
noncomputable def n59_9 : Code := cl n59_8
noncomputable def n59_10 : Code := cl n59_9
noncomputable def q59_10 : List Oper := opsOf n59_10
noncomputable def n59_11 : Code := cr n59_9
noncomputable def n59_12 : Code := cr n59_8
noncomputable def n59_13 : Code := cl n59_12
noncomputable def q59_13 : List Oper := opsOf n59_13
noncomputable def n59_14 : Code := cr n59_12
noncomputable def n59_15 : Code := cl n59_14
noncomputable def n59_16 : Code := cl n59_15
noncomputable def q59_16 : List Oper := opsOf n59_16
noncomputable def n59_17 : Code := cr n59_15
noncomputable def n59_18 : Code := cr n59_14
noncomputable def n59_19 : Code := cr n59_4
noncomputable def n59_20 : Code := cl n59_19
noncomputable def q59_20 : List Oper := opsOf n59_20
noncomputable def n59_21 : Code := cr n59_19
theorem body59 : Try.f59.body = some n59_0 := by kernel_rfl
theorem run59 (E : Ev) (args : List Value) (h : List Blk) (hl : args.length ≤ 17) : runB Try.prog E 59 args h = endS Try.prog [.tmp 2, .tmp 3] h.length (codeB Try.prog E ⟨59, 17, h.length, none⟩ n59_0 ⟨enumT 0 args, h, []⟩) := GE.run_step Try.func59 body59 (by kernel_rfl) (by decide) (by kernel_rfl) hl
theorem n59_1s : codeB Try.prog E ⟨f, 17, b, ro⟩ n59_1 st = plainS (runOps Try.prog E b q59_1 (ops [false] Try.f59) st) := GE.region_step (id := 0) (GE.reg_of (by kernel_rfl)) (by kernel_rfl)
theorem n59_3s : codeB Try.prog E ⟨f, 17, b, ro⟩ n59_3 st = plainS (runOps Try.prog E b q59_3 (ops [true, false] Try.f59) st) := GE.region_step (id := 1) (GE.reg_of (by kernel_rfl)) (by kernel_rfl)
theorem n59_7s : codeB Try.prog E ⟨f, 17, b, ro⟩ n59_7 st = plainS (runOps Try.prog E b q59_7 (ops [true, true, false, false, false] Try.f59) st) := GE.region_step (id := 2) (GE.reg_of (by kernel_rfl)) (by kernel_rfl)
theorem n59_10s : codeB Try.prog E ⟨f, 17, b, ro⟩ n59_10 st = plainS (runOps Try.prog E b q59_10 (ops [true, true, false, false, true, false, false] Try.f59) st) := GE.region_step (id := 3) (GE.reg_of (by kernel_rfl)) (by kernel_rfl)
theorem n59_11s : codeB Try.prog LL ⟨59, 17, b, ro⟩ n59_11 st = normS b ⟨[2, 3], []⟩ .ret st := GE.ret_step (by kernel_rfl) (by kernel_rfl)
theorem n59_9s : codeB Try.prog E cx n59_9 st = thenS (codeB Try.prog E cx n59_10 st) (codeB Try.prog E cx n59_11) := GE.seq_step (by kernel_rfl)
theorem n59_13s : codeB Try.prog E ⟨f, 17, b, ro⟩ n59_13 st = plainS (runOps Try.prog E b q59_13 (ops [true, true, false, false, true, true, false] Try.f59) st) := GE.region_step (id := 4) (GE.reg_of (by kernel_rfl)) (by kernel_rfl)
theorem n59_16s : codeB Try.prog E ⟨f, 17, b, ro⟩ n59_16 st = plainS (runOps Try.prog E b q59_16 (ops [true, true, false, false, true, true, true, false, false] Try.f59) st) := GE.region_step (id := 5) (GE.reg_of (by kernel_rfl)) (by kernel_rfl)
theorem n59_17s : codeB Try.prog LL ⟨59, 17, b, ro⟩ n59_17 st = normS b ⟨[2, 3], []⟩ .ret st := GE.ret_step (by kernel_rfl) (by kernel_rfl)
theorem n59_15s : codeB Try.prog E cx n59_15 st = thenS (codeB Try.prog E cx n59_16 st) (codeB Try.prog E cx n59_17) := GE.seq_step (by kernel_rfl)
theorem n59_18s : codeB Try.prog E cx n59_18 st = some (.normal, st) := GE.skip_step (by kernel_rfl)
theorem n59_14s : codeB Try.prog E cx n59_14 st = condS (codeB Try.prog E cx n59_15) (codeB Try.prog E cx n59_18) (lk st.σ 11) st := GE.cond_step (c := .tmp 11) (by kernel_rfl)
theorem n59_12s : codeB Try.prog E cx n59_12 st = thenS (codeB Try.prog E cx n59_13 st) (codeB Try.prog E cx n59_14) := GE.seq_step (by kernel_rfl)
theorem n59_8s : codeB Try.prog E cx n59_8 st = condS (codeB Try.prog E cx n59_9) (codeB Try.prog E cx n59_12) (lk st.σ 7) st := GE.cond_step (c := .tmp 7) (by kernel_rfl)
theorem n59_6s : codeB Try.prog E cx n59_6 st = thenS (codeB Try.prog E cx n59_7 st) (codeB Try.prog E cx n59_8) := GE.seq_step (by kernel_rfl)
theorem n59_5s : codeB Try.prog E cx n59_5 st = blockS 0 (codeB Try.prog E cx n59_6 st) st := GE.block_step (by kernel_rfl)
theorem n59_20s : codeB Try.prog E ⟨f, 17, b, ro⟩ n59_20 st = plainS (runOps Try.prog E b q59_20 (ops [true, true, true, false] Try.f59) st) := GE.region_step (id := 6) (GE.reg_of (by kernel_rfl)) (by kernel_rfl)
theorem n59_21s : codeB Try.prog LL ⟨59, 17, b, ro⟩ n59_21 st = normS b ⟨[2, 3], []⟩ .ret st := GE.ret_step (by kernel_rfl) (by kernel_rfl)
theorem n59_19s : codeB Try.prog E cx n59_19 st = thenS (codeB Try.prog E cx n59_20 st) (codeB Try.prog E cx n59_21) := GE.seq_step (by kernel_rfl)
theorem n59_4s : codeB Try.prog E cx n59_4 st = thenS (codeB Try.prog E cx n59_5 st) (codeB Try.prog E cx n59_19) := GE.seq_step (by kernel_rfl)
theorem n59_2s : codeB Try.prog E cx n59_2 st = thenS (codeB Try.prog E cx n59_3 st) (codeB Try.prog E cx n59_4) := GE.seq_step (by kernel_rfl)
theorem n59_0s : codeB Try.prog E cx n59_0 st = thenS (codeB Try.prog E cx n59_1 st) (codeB Try.prog E cx n59_2) := GE.seq_step (by kernel_rfl)
noncomputable def n60_0 : Code := bodyOf Try.f60
noncomputable def n60_1 : Code := cl n60_0
noncomputable def q60_1 : List Oper := opsOf n60_1
noncomputable def n60_2 : Code := cr n60_0
noncomputable def n60_3 : Code := cl n60_2
noncomputable def q60_3 : List Oper := opsOf n60_3
noncomputable def n60_4 : Code := cr n60_2
noncomputable def n60_5 : Code := cl n60_4
noncomputable def n60_6 : Code := cl n60_5
noncomputable def q60_6 : List Oper := opsOf n60_6
noncomputable def n60_7 : Code := cr n60_5
noncomputable def n60_8 : Code := cl n60_7
noncomputable def n60_9 : Code := cl n60_8
noncomputable def q60_9 : List Oper := opsOf n60_9
noncomputable def n60_10 : Code := cr n60_8
noncomputable def q60_10 : List Oper := opsOf n60_10
noncomputable def n60_11 : Code := cr n60_7
noncomputable def n60_12 : Code := cr n60_4
noncomputable def n60_13 : Code := cl n60_12
noncomputable def q60_13 : List Oper := opsOf n60_13
noncomputable def n60_14 : Code := cr n60_12
theorem body60 : Try.f60.body = some n60_0 := by kernel_rfl
theorem run60 (E : Ev) (args : List Value) (h : List Blk) (hl : args.length ≤ 31) : runB Try.prog E 60 args h = endS Try.prog [.tmp 4] h.length (codeB Try.prog E ⟨60, 31, h.length, none⟩ n60_0 ⟨enumT 0 args, h, []⟩) := GE.run_step Try.func60 body60 (by kernel_rfl) (by decide) (by kernel_rfl) hl
theorem n60_1s : codeB Try.prog E ⟨f, 31, b, ro⟩ n60_1 st = plainS (runOps Try.prog E b q60_1 (ops [false] Try.f60) st) := GE.region_step (id := 0) (GE.reg_of (by kernel_rfl)) (by kernel_rfl)
theorem n60_3s : codeB Try.prog E ⟨f, 31, b, ro⟩ n60_3 st = plainS (runOps Try.prog E b q60_3 (ops [true, false] Try.f60) st) := GE.region_step (id := 1) (GE.reg_of (by kernel_rfl)) (by kernel_rfl)
theorem n60_6s : codeB Try.prog E ⟨f, 31, b, ro⟩ n60_6 st = plainS (runOps Try.prog E b q60_6 (ops [true, true, false, false] Try.f60) st) := GE.region_step (id := 2) (GE.reg_of (by kernel_rfl)) (by kernel_rfl)
theorem n60_9s : codeB Try.prog E ⟨f, 31, b, ro⟩ n60_9 st = plainS (runOps Try.prog E b q60_9 (ops [true, true, false, true, false, false] Try.f60) st) := GE.region_step (id := 3) (GE.reg_of (by kernel_rfl)) (by kernel_rfl)
theorem n60_10s : codeB Try.prog E ⟨f, 31, b, ro⟩ n60_10 st = plainS (runOps Try.prog E b q60_10 (ops [true, true, false, true, false, true] Try.f60) st) := GE.region_step (id := 4) (GE.reg_of (by kernel_rfl)) (by kernel_rfl)
theorem n60_8s : codeB Try.prog E cx n60_8 st = thenS (codeB Try.prog E cx n60_9 st) (codeB Try.prog E cx n60_10) := GE.seq_step (by kernel_rfl)
theorem n60_11s : codeB Try.prog E cx n60_11 st = some (.normal, st) := GE.skip_step (by kernel_rfl)
theorem n60_7s : codeB Try.prog E cx n60_7 st = condS (codeB Try.prog E cx n60_8) (codeB Try.prog E cx n60_11) (lk st.σ 17) st := GE.cond_step (c := .tmp 17) (by kernel_rfl)
theorem n60_5s : codeB Try.prog E cx n60_5 st = thenS (codeB Try.prog E cx n60_6 st) (codeB Try.prog E cx n60_7) := GE.seq_step (by kernel_rfl)
theorem n60_13s : codeB Try.prog E ⟨f, 31, b, ro⟩ n60_13 st = plainS (runOps Try.prog E b q60_13 (ops [true, true, true, false] Try.f60) st) := GE.region_step (id := 5) (GE.reg_of (by kernel_rfl)) (by kernel_rfl)
theorem n60_14s : codeB Try.prog LL ⟨60, 31, b, ro⟩ n60_14 st = normS b ⟨[4], []⟩ .ret st := GE.ret_step (by kernel_rfl) (by kernel_rfl)
theorem n60_12s : codeB Try.prog E cx n60_12 st = thenS (codeB Try.prog E cx n60_13 st) (codeB Try.prog E cx n60_14) := GE.seq_step (by kernel_rfl)
theorem n60_4s : codeB Try.prog E cx n60_4 st = thenS (codeB Try.prog E cx n60_5 st) (codeB Try.prog E cx n60_12) := GE.seq_step (by kernel_rfl)
theorem n60_2s : codeB Try.prog E cx n60_2 st = thenS (codeB Try.prog E cx n60_3 st) (codeB Try.prog E cx n60_4) := GE.seq_step (by kernel_rfl)
theorem n60_0s : codeB Try.prog E cx n60_0 st = thenS (codeB Try.prog E cx n60_1 st) (codeB Try.prog E cx n60_2) := GE.seq_step (by kernel_rfl)
noncomputable def n69_0 : Code := bodyOf Try.f69
noncomputable def n69_1 : Code := cl n69_0
noncomputable def q69_1 : List Oper := opsOf n69_1
noncomputable def n69_2 : Code := cr n69_0
noncomputable def n69_3 : Code := cl n69_2
noncomputable def q69_3 : List Oper := opsOf n69_3
noncomputable def n69_4 : Code := cr n69_2
noncomputable def n69_5 : Code := cl n69_4
noncomputable def q69_5 : List Oper := opsOf n69_5
noncomputable def n69_6 : Code := cr n69_4
noncomputable def n69_7 : Code := cl n69_6
noncomputable def q69_7 : List Oper := opsOf n69_7
noncomputable def n69_8 : Code := cr n69_6
noncomputable def n69_9 : Code := cl n69_8
noncomputable def q69_9 : List Oper := opsOf n69_9
noncomputable def n69_10 : Code := cr n69_8
noncomputable def n69_11 : Code := cl n69_10
noncomputable def q69_11 : List Oper := opsOf n69_11
noncomputable def n69_12 : Code := cr n69_10
theorem body69 : Try.f69.body = some n69_0 := by kernel_rfl
theorem run69 (E : Ev) (args : List Value) (h : List Blk) (hl : args.length ≤ 32) : runB Try.prog E 69 args h = endS Try.prog [.tmp 4] h.length (codeB Try.prog E ⟨69, 32, h.length, none⟩ n69_0 ⟨enumT 0 args, h, []⟩) := GE.run_step Try.func69 body69 (by kernel_rfl) (by decide) (by kernel_rfl) hl
theorem n69_1s : codeB Try.prog E ⟨f, 32, b, ro⟩ n69_1 st = plainS (runOps Try.prog E b q69_1 (ops [false] Try.f69) st) := GE.region_step (id := 0) (GE.reg_of (by kernel_rfl)) (by kernel_rfl)
theorem n69_3s : codeB Try.prog E ⟨f, 32, b, ro⟩ n69_3 st = plainS (runOps Try.prog E b q69_3 (ops [true, false] Try.f69) st) := GE.region_step (id := 1) (GE.reg_of (by kernel_rfl)) (by kernel_rfl)
theorem n69_5s : codeB Try.prog E ⟨f, 32, b, ro⟩ n69_5 st = plainS (runOps Try.prog E b q69_5 (ops [true, true, false] Try.f69) st) := GE.region_step (id := 2) (GE.reg_of (by kernel_rfl)) (by kernel_rfl)
theorem n69_7s : codeB Try.prog E ⟨f, 32, b, ro⟩ n69_7 st = plainS (runOps Try.prog E b q69_7 (ops [true, true, true, false] Try.f69) st) := GE.region_step (id := 3) (GE.reg_of (by kernel_rfl)) (by kernel_rfl)
theorem n69_9s : codeB Try.prog E ⟨f, 32, b, ro⟩ n69_9 st = plainS (runOps Try.prog E b q69_9 (ops [true, true, true, true, false] Try.f69) st) := GE.region_step (id := 4) (GE.reg_of (by kernel_rfl)) (by kernel_rfl)
theorem n69_11s : codeB Try.prog E ⟨f, 32, b, ro⟩ n69_11 st = plainS (runOps Try.prog E b q69_11 (ops [true, true, true, true, true, false] Try.f69) st) := GE.region_step (id := 5) (GE.reg_of (by kernel_rfl)) (by kernel_rfl)
theorem n69_12s : codeB Try.prog LL ⟨69, 32, b, ro⟩ n69_12 st = normS b ⟨[4], []⟩ .ret st := GE.ret_step (by kernel_rfl) (by kernel_rfl)
theorem n69_10s : codeB Try.prog E cx n69_10 st = thenS (codeB Try.prog E cx n69_11 st) (codeB Try.prog E cx n69_12) := GE.seq_step (by kernel_rfl)
theorem n69_8s : codeB Try.prog E cx n69_8 st = thenS (codeB Try.prog E cx n69_9 st) (codeB Try.prog E cx n69_10) := GE.seq_step (by kernel_rfl)
theorem n69_6s : codeB Try.prog E cx n69_6 st = thenS (codeB Try.prog E cx n69_7 st) (codeB Try.prog E cx n69_8) := GE.seq_step (by kernel_rfl)
theorem n69_4s : codeB Try.prog E cx n69_4 st = thenS (codeB Try.prog E cx n69_5 st) (codeB Try.prog E cx n69_6) := GE.seq_step (by kernel_rfl)
theorem n69_2s : codeB Try.prog E cx n69_2 st = thenS (codeB Try.prog E cx n69_3 st) (codeB Try.prog E cx n69_4) := GE.seq_step (by kernel_rfl)
theorem n69_0s : codeB Try.prog E cx n69_0 st = thenS (codeB Try.prog E cx n69_1 st) (codeB Try.prog E cx n69_2) := GE.seq_step (by kernel_rfl)
noncomputable def n71_0 : Code := bodyOf Try.f71
noncomputable def n71_1 : Code := cl n71_0
noncomputable def q71_1 : List Oper := opsOf n71_1
noncomputable def n71_2 : Code := cr n71_0
noncomputable def n71_3 : Code := cl n71_2
noncomputable def q71_3 : List Oper := opsOf n71_3
noncomputable def n71_4 : Code := cr n71_2
theorem body71 : Try.f71.body = some n71_0 := by kernel_rfl
theorem run71 (E : Ev) (args : List Value) (h : List Blk) (hl : args.length ≤ 10) : runB Try.prog E 71 args h = endS Try.prog [.tmp 4] h.length (codeB Try.prog E ⟨71, 10, h.length, none⟩ n71_0 ⟨enumT 0 args, h, []⟩) := GE.run_step Try.func71 body71 (by kernel_rfl) (by decide) (by kernel_rfl) hl
theorem n71_1s : codeB Try.prog E ⟨f, 10, b, ro⟩ n71_1 st = plainS (runOps Try.prog E b q71_1 (ops [false] Try.f71) st) := GE.region_step (id := 0) (GE.reg_of (by kernel_rfl)) (by kernel_rfl)
theorem n71_3s : codeB Try.prog E ⟨f, 10, b, ro⟩ n71_3 st = plainS (runOps Try.prog E b q71_3 (ops [true, false] Try.f71) st) := GE.region_step (id := 1) (GE.reg_of (by kernel_rfl)) (by kernel_rfl)
theorem n71_4s : codeB Try.prog LL ⟨71, 10, b, ro⟩ n71_4 st = normS b ⟨[4], []⟩ .ret st := GE.ret_step (by kernel_rfl) (by kernel_rfl)
theorem n71_2s : codeB Try.prog E cx n71_2 st = thenS (codeB Try.prog E cx n71_3 st) (codeB Try.prog E cx n71_4) := GE.seq_step (by kernel_rfl)
theorem n71_0s : codeB Try.prog E cx n71_0 st = thenS (codeB Try.prog E cx n71_1 st) (codeB Try.prog E cx n71_2) := GE.seq_step (by kernel_rfl)
noncomputable def n72_0 : Code := bodyOf Try.f72
noncomputable def n72_1 : Code := cl n72_0
noncomputable def q72_1 : List Oper := opsOf n72_1
noncomputable def n72_2 : Code := cr n72_0
noncomputable def n72_3 : Code := cl n72_2
noncomputable def n72_4 : Code := cl n72_3
noncomputable def q72_4 : List Oper := opsOf n72_4
noncomputable def n72_5 : Code := cr n72_3
noncomputable def n72_6 : Code := cl n72_5
noncomputable def q72_6 : List Oper := opsOf n72_6
noncomputable def n72_7 : Code := cr n72_5
noncomputable def n72_8 : Code := cl n72_7
noncomputable def n72_9 : Code := cl n72_8
noncomputable def q72_9 : List Oper := opsOf n72_9
noncomputable def n72_10 : Code := cr n72_8
noncomputable def n72_11 : Code := cr n72_7
noncomputable def n72_12 : Code := cr n72_2
noncomputable def n72_13 : Code := cl n72_12
noncomputable def n72_14 : Code := cl n72_13
noncomputable def q72_14 : List Oper := opsOf n72_14
noncomputable def n72_15 : Code := cr n72_13
noncomputable def n72_16 : Code := cl n72_15
noncomputable def n72_17 : Code := cl n72_16
noncomputable def q72_17 : List Oper := opsOf n72_17
noncomputable def n72_18 : Code := cr n72_16
noncomputable def n72_19 : Code := cr n72_15
noncomputable def n72_20 : Code := cr n72_12
noncomputable def n72_21 : Code := cl n72_20
noncomputable def q72_21 : List Oper := opsOf n72_21
noncomputable def n72_22 : Code := cr n72_20
noncomputable def n72_23 : Code := cl n72_22
noncomputable def n72_24 : Code := cl n72_23
noncomputable def q72_24 : List Oper := opsOf n72_24
noncomputable def n72_25 : Code := cr n72_23
noncomputable def n72_26 : Code := cl n72_25
noncomputable def n72_27 : Code := cl n72_26
noncomputable def n72_28 : Code := cl n72_27
noncomputable def q72_28 : List Oper := opsOf n72_28
noncomputable def n72_29 : Code := cr n72_27
noncomputable def n72_30 : Code := cl n72_29
noncomputable def n72_31 : Code := cl n72_30
noncomputable def n72_32 : Code := cr n72_30
noncomputable def n72_33 : Code := cr n72_29
noncomputable def n72_34 : Code := cl n72_33
noncomputable def n72_35 : Code := cl n72_34
noncomputable def n72_36 : Code := cl n72_35
noncomputable def q72_36 : List Oper := opsOf n72_36
noncomputable def n72_37 : Code := cr n72_35
noncomputable def n72_38 : Code := cl n72_37
noncomputable def n72_39 : Code := cl n72_38
noncomputable def n72_40 : Code := cl n72_39
noncomputable def q72_40 : List Oper := opsOf n72_40
noncomputable def n72_41 : Code := cr n72_39
noncomputable def n72_42 : Code := cl n72_41
noncomputable def n72_43 : Code := cl n72_42
noncomputable def q72_43 : List Oper := opsOf n72_43
noncomputable def n72_44 : Code := cr n72_42
noncomputable def n72_45 : Code := cr n72_41
noncomputable def n72_46 : Code := cl n72_45
noncomputable def q72_46 : List Oper := opsOf n72_46
noncomputable def n72_47 : Code := cr n72_45
noncomputable def n72_48 : Code := cl n72_47
noncomputable def n72_49 : Code := cl n72_48
noncomputable def q72_49 : List Oper := opsOf n72_49
noncomputable def n72_50 : Code := cr n72_48
noncomputable def n72_51 : Code := cr n72_47
noncomputable def n72_52 : Code := cr n72_37
noncomputable def q72_52 : List Oper := opsOf n72_52
noncomputable def n72_53 : Code := cr n72_33
noncomputable def q72_53 : List Oper := opsOf n72_53
noncomputable def n72_54 : Code := cr n72_22
noncomputable def n72_55 : Code := cl n72_54
noncomputable def q72_55 : List Oper := opsOf n72_55
noncomputable def n72_56 : Code := cr n72_54
theorem body72 : Try.f72.body = some n72_0 := by kernel_rfl
theorem run72 (E : Ev) (args : List Value) (h : List Blk) (hl : args.length ≤ 43) : runB Try.prog E 72 args h = endS Try.prog [.tmp 4] h.length (codeB Try.prog E ⟨72, 43, h.length, none⟩ n72_0 ⟨enumT 0 args, h, []⟩) := GE.run_step Try.func72 body72 (by kernel_rfl) (by decide) (by kernel_rfl) hl
theorem n72_1s : codeB Try.prog E ⟨f, 43, b, ro⟩ n72_1 st = plainS (runOps Try.prog E b q72_1 (ops [false] Try.f72) st) := GE.region_step (id := 0) (GE.reg_of (by kernel_rfl)) (by kernel_rfl)
theorem n72_4s : codeB Try.prog E ⟨f, 43, b, ro⟩ n72_4 st = plainS (runOps Try.prog E b q72_4 (ops [true, false, false] Try.f72) st) := GE.region_step (id := 1) (GE.reg_of (by kernel_rfl)) (by kernel_rfl)
theorem n72_6s : codeB Try.prog E ⟨f, 43, b, ro⟩ n72_6 st = plainS (runOps Try.prog E b q72_6 (ops [true, false, true, false] Try.f72) st) := GE.region_step (id := 2) (GE.reg_of (by kernel_rfl)) (by kernel_rfl)
theorem n72_9s : codeB Try.prog E ⟨f, 43, b, ro⟩ n72_9 st = plainS (runOps Try.prog E b q72_9 (ops [true, false, true, true, false, false] Try.f72) st) := GE.region_step (id := 3) (GE.reg_of (by kernel_rfl)) (by kernel_rfl)
theorem n72_10s : codeB Try.prog LL ⟨72, 43, b, ro⟩ n72_10 st = normS b ⟨[4], []⟩ .ret st := GE.ret_step (by kernel_rfl) (by kernel_rfl)
theorem n72_8s : codeB Try.prog E cx n72_8 st = thenS (codeB Try.prog E cx n72_9 st) (codeB Try.prog E cx n72_10) := GE.seq_step (by kernel_rfl)
theorem n72_11s : codeB Try.prog E cx n72_11 st = some (.normal, st) := GE.skip_step (by kernel_rfl)
theorem n72_7s : codeB Try.prog E cx n72_7 st = condS (codeB Try.prog E cx n72_8) (codeB Try.prog E cx n72_11) (lk st.σ 12) st := GE.cond_step (c := .tmp 12) (by kernel_rfl)
theorem n72_5s : codeB Try.prog E cx n72_5 st = thenS (codeB Try.prog E cx n72_6 st) (codeB Try.prog E cx n72_7) := GE.seq_step (by kernel_rfl)
theorem n72_3s : codeB Try.prog E cx n72_3 st = thenS (codeB Try.prog E cx n72_4 st) (codeB Try.prog E cx n72_5) := GE.seq_step (by kernel_rfl)
theorem n72_14s : codeB Try.prog E ⟨f, 43, b, ro⟩ n72_14 st = plainS (runOps Try.prog E b q72_14 (ops [true, true, false, false] Try.f72) st) := GE.region_step (id := 4) (GE.reg_of (by kernel_rfl)) (by kernel_rfl)
theorem n72_17s : codeB Try.prog E ⟨f, 43, b, ro⟩ n72_17 st = plainS (runOps Try.prog E b q72_17 (ops [true, true, false, true, false, false] Try.f72) st) := GE.region_step (id := 5) (GE.reg_of (by kernel_rfl)) (by kernel_rfl)
theorem n72_18s : codeB Try.prog LL ⟨72, 43, b, ro⟩ n72_18 st = normS b ⟨[4], []⟩ .ret st := GE.ret_step (by kernel_rfl) (by kernel_rfl)
theorem n72_16s : codeB Try.prog E cx n72_16 st = thenS (codeB Try.prog E cx n72_17 st) (codeB Try.prog E cx n72_18) := GE.seq_step (by kernel_rfl)
theorem n72_19s : codeB Try.prog E cx n72_19 st = some (.normal, st) := GE.skip_step (by kernel_rfl)
theorem n72_15s : codeB Try.prog E cx n72_15 st = condS (codeB Try.prog E cx n72_16) (codeB Try.prog E cx n72_19) (lk st.σ 18) st := GE.cond_step (c := .tmp 18) (by kernel_rfl)
theorem n72_13s : codeB Try.prog E cx n72_13 st = thenS (codeB Try.prog E cx n72_14 st) (codeB Try.prog E cx n72_15) := GE.seq_step (by kernel_rfl)
theorem n72_21s : codeB Try.prog E ⟨f, 43, b, ro⟩ n72_21 st = plainS (runOps Try.prog E b q72_21 (ops [true, true, true, false] Try.f72) st) := GE.region_step (id := 6) (GE.reg_of (by kernel_rfl)) (by kernel_rfl)
theorem n72_24s : codeB Try.prog E ⟨f, 43, b, ro⟩ n72_24 st = plainS (runOps Try.prog E b q72_24 (ops [true, true, true, true, false, false] Try.f72) st) := GE.region_step (id := 7) (GE.reg_of (by kernel_rfl)) (by kernel_rfl)
theorem n72_28s : codeB Try.prog E ⟨f, 43, b, ro⟩ n72_28 st = plainS (runOps Try.prog E b q72_28 (ops [true, true, true, true, false, true, false, false, false] Try.f72) st) := GE.region_step (id := 8) (GE.reg_of (by kernel_rfl)) (by kernel_rfl)
theorem n72_31s : codeB Try.prog E cx n72_31 st = some (.normal, st) := GE.skip_step (by kernel_rfl)
theorem n72_32s : codeB Try.prog LL ⟨72, 43, b, ro⟩ n72_32 st = normS b ⟨[], []⟩ (.exit 0) st := GE.exit_step (by kernel_rfl) (by kernel_rfl)
theorem n72_30s : codeB Try.prog E cx n72_30 st = condS (codeB Try.prog E cx n72_31) (codeB Try.prog E cx n72_32) (lk st.σ 22) st := GE.cond_step (c := .tmp 22) (by kernel_rfl)
theorem n72_36s : codeB Try.prog E ⟨f, 43, b, ro⟩ n72_36 st = plainS (runOps Try.prog E b q72_36 (ops [true, true, true, true, false, true, false, false, true, true, false, false, false] Try.f72) st) := GE.region_step (id := 9) (GE.reg_of (by kernel_rfl)) (by kernel_rfl)
theorem n72_40s : codeB Try.prog E ⟨f, 43, b, ro⟩ n72_40 st = plainS (runOps Try.prog E b q72_40 (ops [true, true, true, true, false, true, false, false, true, true, false, false, true, false, false, false] Try.f72) st) := GE.region_step (id := 10) (GE.reg_of (by kernel_rfl)) (by kernel_rfl)
theorem n72_43s : codeB Try.prog E ⟨f, 43, b, ro⟩ n72_43 st = plainS (runOps Try.prog E b q72_43 (ops [true, true, true, true, false, true, false, false, true, true, false, false, true, false, false, true, false, false] Try.f72) st) := GE.region_step (id := 11) (GE.reg_of (by kernel_rfl)) (by kernel_rfl)
theorem n72_44s : codeB Try.prog LL ⟨72, 43, b, ro⟩ n72_44 st = normS b ⟨[4], []⟩ .ret st := GE.ret_step (by kernel_rfl) (by kernel_rfl)
theorem n72_42s : codeB Try.prog E cx n72_42 st = thenS (codeB Try.prog E cx n72_43 st) (codeB Try.prog E cx n72_44) := GE.seq_step (by kernel_rfl)
theorem n72_46s : codeB Try.prog E ⟨f, 43, b, ro⟩ n72_46 st = plainS (runOps Try.prog E b q72_46 (ops [true, true, true, true, false, true, false, false, true, true, false, false, true, false, false, true, true, false] Try.f72) st) := GE.region_step (id := 12) (GE.reg_of (by kernel_rfl)) (by kernel_rfl)
theorem n72_49s : codeB Try.prog E ⟨f, 43, b, ro⟩ n72_49 st = plainS (runOps Try.prog E b q72_49 (ops [true, true, true, true, false, true, false, false, true, true, false, false, true, false, false, true, true, true, false, false] Try.f72) st) := GE.region_step (id := 13) (GE.reg_of (by kernel_rfl)) (by kernel_rfl)
theorem n72_50s : codeB Try.prog LL ⟨72, 43, b, ro⟩ n72_50 st = normS b ⟨[4], []⟩ .ret st := GE.ret_step (by kernel_rfl) (by kernel_rfl)
theorem n72_48s : codeB Try.prog E cx n72_48 st = thenS (codeB Try.prog E cx n72_49 st) (codeB Try.prog E cx n72_50) := GE.seq_step (by kernel_rfl)
theorem n72_51s : codeB Try.prog E cx n72_51 st = some (.normal, st) := GE.skip_step (by kernel_rfl)
theorem n72_47s : codeB Try.prog E cx n72_47 st = condS (codeB Try.prog E cx n72_48) (codeB Try.prog E cx n72_51) (lk st.σ 32) st := GE.cond_step (c := .tmp 32) (by kernel_rfl)
theorem n72_45s : codeB Try.prog E cx n72_45 st = thenS (codeB Try.prog E cx n72_46 st) (codeB Try.prog E cx n72_47) := GE.seq_step (by kernel_rfl)
theorem n72_41s : codeB Try.prog E cx n72_41 st = condS (codeB Try.prog E cx n72_42) (codeB Try.prog E cx n72_45) (lk st.σ 25) st := GE.cond_step (c := .tmp 25) (by kernel_rfl)
theorem n72_39s : codeB Try.prog E cx n72_39 st = thenS (codeB Try.prog E cx n72_40 st) (codeB Try.prog E cx n72_41) := GE.seq_step (by kernel_rfl)
theorem n72_38s : codeB Try.prog E cx n72_38 st = blockS 2 (codeB Try.prog E cx n72_39 st) st := GE.block_step (by kernel_rfl)
theorem n72_52s : codeB Try.prog E ⟨f, 43, b, ro⟩ n72_52 st = plainS (runOps Try.prog E b q72_52 (ops [true, true, true, true, false, true, false, false, true, true, false, false, true, true] Try.f72) st) := GE.region_step (id := 14) (GE.reg_of (by kernel_rfl)) (by kernel_rfl)
theorem n72_37s : codeB Try.prog E cx n72_37 st = thenS (codeB Try.prog E cx n72_38 st) (codeB Try.prog E cx n72_52) := GE.seq_step (by kernel_rfl)
theorem n72_35s : codeB Try.prog E cx n72_35 st = thenS (codeB Try.prog E cx n72_36 st) (codeB Try.prog E cx n72_37) := GE.seq_step (by kernel_rfl)
theorem n72_34s : codeB Try.prog E cx n72_34 st = blockS 1 (codeB Try.prog E cx n72_35 st) st := GE.block_step (by kernel_rfl)
theorem n72_53s : codeB Try.prog E ⟨f, 43, b, ro⟩ n72_53 st = plainS (runOps Try.prog E b q72_53 (ops [true, true, true, true, false, true, false, false, true, true, true] Try.f72) st) := GE.region_step (id := 15) (GE.reg_of (by kernel_rfl)) (by kernel_rfl)
theorem n72_33s : codeB Try.prog E cx n72_33 st = thenS (codeB Try.prog E cx n72_34 st) (codeB Try.prog E cx n72_53) := GE.seq_step (by kernel_rfl)
theorem n72_29s : codeB Try.prog E cx n72_29 st = thenS (codeB Try.prog E cx n72_30 st) (codeB Try.prog E cx n72_33) := GE.seq_step (by kernel_rfl)
theorem n72_27s : codeB Try.prog E cx n72_27 st = thenS (codeB Try.prog E cx n72_28 st) (codeB Try.prog E cx n72_29) := GE.seq_step (by kernel_rfl)
theorem n72_26k : LL.kp (⟨72, 43, b, ro⟩ : Cx).fn (4 * rid n72_27 + 3) = some ⟨[0, 6, 19, 20, 21], [⟨0, 0, 2, true⟩, ⟨19, 0, 1, true⟩]⟩ := by kernel_rfl
theorem n72_26s : codeB Try.prog LL ⟨72, 43, b, ro⟩ n72_26 st = headS b ⟨[0, 6, 19, 20, 21], [⟨0, 0, 2, true⟩, ⟨19, 0, 1, true⟩]⟩ st (lpB Try.prog LL ⟨72, 43, b, ro⟩ n72_26 n72_27) := GE.lpB_step (by kernel_rfl) (n72_26k b ro)
theorem n72_26g : LL.code ⟨72, 43, b, ro⟩ n72_26 st = headS b ⟨[0, 6, 19, 20, 21], [⟨0, 0, 2, true⟩, ⟨19, 0, 1, true⟩]⟩ st (lpB Try.prog LL ⟨72, 43, b, ro⟩ n72_26 n72_27) := GE.lpB_again (by kernel_rfl) (n72_26k b ro)
theorem n72_25s : codeB Try.prog E cx n72_25 st = blockS 0 (codeB Try.prog E cx n72_26 st) st := GE.block_step (by kernel_rfl)
theorem n72_23s : codeB Try.prog E cx n72_23 st = thenS (codeB Try.prog E cx n72_24 st) (codeB Try.prog E cx n72_25) := GE.seq_step (by kernel_rfl)
theorem n72_55s : codeB Try.prog E ⟨f, 43, b, ro⟩ n72_55 st = plainS (runOps Try.prog E b q72_55 (ops [true, true, true, true, true, false] Try.f72) st) := GE.region_step (id := 16) (GE.reg_of (by kernel_rfl)) (by kernel_rfl)
theorem n72_56s : codeB Try.prog LL ⟨72, 43, b, ro⟩ n72_56 st = normS b ⟨[4], []⟩ .ret st := GE.ret_step (by kernel_rfl) (by kernel_rfl)
theorem n72_54s : codeB Try.prog E cx n72_54 st = thenS (codeB Try.prog E cx n72_55 st) (codeB Try.prog E cx n72_56) := GE.seq_step (by kernel_rfl)
theorem n72_22s : codeB Try.prog E cx n72_22 st = thenS (codeB Try.prog E cx n72_23 st) (codeB Try.prog E cx n72_54) := GE.seq_step (by kernel_rfl)
theorem n72_20s : codeB Try.prog E cx n72_20 st = thenS (codeB Try.prog E cx n72_21 st) (codeB Try.prog E cx n72_22) := GE.seq_step (by kernel_rfl)
theorem n72_12s : codeB Try.prog E cx n72_12 st = thenS (codeB Try.prog E cx n72_13 st) (codeB Try.prog E cx n72_20) := GE.seq_step (by kernel_rfl)
theorem n72_2s : codeB Try.prog E cx n72_2 st = thenS (codeB Try.prog E cx n72_3 st) (codeB Try.prog E cx n72_12) := GE.seq_step (by kernel_rfl)
theorem n72_0s : codeB Try.prog E cx n72_0 st = thenS (codeB Try.prog E cx n72_1 st) (codeB Try.prog E cx n72_2) := GE.seq_step (by kernel_rfl)
noncomputable def n73_0 : Code := bodyOf Try.f73
noncomputable def n73_1 : Code := cl n73_0
noncomputable def q73_1 : List Oper := opsOf n73_1
noncomputable def n73_2 : Code := cr n73_0
noncomputable def n73_3 : Code := cl n73_2
noncomputable def n73_4 : Code := cl n73_3
noncomputable def q73_4 : List Oper := opsOf n73_4
noncomputable def n73_5 : Code := cr n73_3
noncomputable def n73_6 : Code := cl n73_5
noncomputable def n73_7 : Code := cl n73_6
noncomputable def n73_8 : Code := cl n73_7
noncomputable def q73_8 : List Oper := opsOf n73_8
noncomputable def n73_9 : Code := cr n73_7
noncomputable def n73_10 : Code := cl n73_9
noncomputable def n73_11 : Code := cl n73_10
noncomputable def n73_12 : Code := cr n73_10
noncomputable def n73_13 : Code := cr n73_9
noncomputable def n73_14 : Code := cl n73_13
noncomputable def n73_15 : Code := cl n73_14
noncomputable def n73_16 : Code := cl n73_15
noncomputable def q73_16 : List Oper := opsOf n73_16
noncomputable def n73_17 : Code := cr n73_15
noncomputable def n73_18 : Code := cl n73_17
noncomputable def q73_18 : List Oper := opsOf n73_18
noncomputable def n73_19 : Code := cr n73_17
noncomputable def n73_20 : Code := cl n73_19
noncomputable def n73_21 : Code := cl n73_20
noncomputable def n73_22 : Code := cl n73_21
noncomputable def n73_23 : Code := cl n73_22
noncomputable def q73_23 : List Oper := opsOf n73_23
noncomputable def n73_24 : Code := cr n73_22
noncomputable def n73_25 : Code := cl n73_24
noncomputable def n73_26 : Code := cr n73_24
noncomputable def n73_27 : Code := cr n73_21
noncomputable def n73_28 : Code := cl n73_27
noncomputable def n73_29 : Code := cl n73_28
noncomputable def n73_30 : Code := cl n73_29
noncomputable def q73_30 : List Oper := opsOf n73_30
noncomputable def n73_31 : Code := cr n73_29
noncomputable def n73_32 : Code := cl n73_31
noncomputable def n73_33 : Code := cl n73_32
noncomputable def q73_33 : List Oper := opsOf n73_33
noncomputable def n73_34 : Code := cr n73_32
noncomputable def n73_35 : Code := cr n73_31
noncomputable def n73_36 : Code := cr n73_27
noncomputable def q73_36 : List Oper := opsOf n73_36
noncomputable def n73_37 : Code := cr n73_13
noncomputable def q73_37 : List Oper := opsOf n73_37
noncomputable def n73_38 : Code := cr n73_2
noncomputable def n73_39 : Code := cl n73_38
noncomputable def q73_39 : List Oper := opsOf n73_39
noncomputable def n73_40 : Code := cr n73_38
theorem body73 : Try.f73.body = some n73_0 := by kernel_rfl
theorem run73 (E : Ev) (args : List Value) (h : List Blk) (hl : args.length ≤ 35) : runB Try.prog E 73 args h = endS Try.prog [.tmp 4, .tmp 5, .tmp 6] h.length (codeB Try.prog E ⟨73, 35, h.length, none⟩ n73_0 ⟨enumT 0 args, h, []⟩) := GE.run_step Try.func73 body73 (by kernel_rfl) (by decide) (by kernel_rfl) hl
theorem n73_1s : codeB Try.prog E ⟨f, 35, b, ro⟩ n73_1 st = plainS (runOps Try.prog E b q73_1 (ops [false] Try.f73) st) := GE.region_step (id := 0) (GE.reg_of (by kernel_rfl)) (by kernel_rfl)
theorem n73_4s : codeB Try.prog E ⟨f, 35, b, ro⟩ n73_4 st = plainS (runOps Try.prog E b q73_4 (ops [true, false, false] Try.f73) st) := GE.region_step (id := 1) (GE.reg_of (by kernel_rfl)) (by kernel_rfl)
theorem n73_8s : codeB Try.prog E ⟨f, 35, b, ro⟩ n73_8 st = plainS (runOps Try.prog E b q73_8 (ops [true, false, true, false, false, false] Try.f73) st) := GE.region_step (id := 2) (GE.reg_of (by kernel_rfl)) (by kernel_rfl)
theorem n73_11s : codeB Try.prog E cx n73_11 st = some (.normal, st) := GE.skip_step (by kernel_rfl)
theorem n73_12s : codeB Try.prog LL ⟨73, 35, b, ro⟩ n73_12 st = normS b ⟨[], []⟩ (.exit 0) st := GE.exit_step (by kernel_rfl) (by kernel_rfl)
theorem n73_10s : codeB Try.prog E cx n73_10 st = condS (codeB Try.prog E cx n73_11) (codeB Try.prog E cx n73_12) (lk st.σ 12) st := GE.cond_step (c := .tmp 12) (by kernel_rfl)
theorem n73_16s : codeB Try.prog E ⟨f, 35, b, ro⟩ n73_16 st = plainS (runOps Try.prog E b q73_16 (ops [true, false, true, false, false, true, true, false, false, false] Try.f73) st) := GE.region_step (id := 3) (GE.reg_of (by kernel_rfl)) (by kernel_rfl)
theorem n73_18s : codeB Try.prog E ⟨f, 35, b, ro⟩ n73_18 st = plainS (runOps Try.prog E b q73_18 (ops [true, false, true, false, false, true, true, false, false, true, false] Try.f73) st) := GE.region_step (id := 4) (GE.reg_of (by kernel_rfl)) (by kernel_rfl)
theorem n73_23s : codeB Try.prog E ⟨f, 35, b, ro⟩ n73_23 st = plainS (runOps Try.prog E b q73_23 (ops [true, false, true, false, false, true, true, false, false, true, true, false, false, false, false] Try.f73) st) := GE.region_step (id := 5) (GE.reg_of (by kernel_rfl)) (by kernel_rfl)
theorem n73_25s : codeB Try.prog E cx n73_25 st = some (.normal, st) := GE.skip_step (by kernel_rfl)
theorem n73_26s : codeB Try.prog LL ⟨73, 35, b, ro⟩ n73_26 st = normS b ⟨[0, 1, 10, 11], [⟨0, 0, 2, true⟩, ⟨1, 0, 1, true⟩]⟩ (.exit 2) st := GE.exit_step (by kernel_rfl) (by kernel_rfl)
theorem n73_24s : codeB Try.prog E cx n73_24 st = condS (codeB Try.prog E cx n73_25) (codeB Try.prog E cx n73_26) (lk st.σ 19) st := GE.cond_step (c := .tmp 19) (by kernel_rfl)
theorem n73_22s : codeB Try.prog E cx n73_22 st = thenS (codeB Try.prog E cx n73_23 st) (codeB Try.prog E cx n73_24) := GE.seq_step (by kernel_rfl)
theorem n73_30s : codeB Try.prog E ⟨f, 35, b, ro⟩ n73_30 st = drawS [0, 0, 0, 6, 14, 0, 0, 96, 224, 511] (runOpsF Try.prog E b q73_30 (ops [true, false, true, false, false, true, true, false, false, true, true, false, false, true, false, false, false] Try.f73) st) := GE.draw_step (id := 7) (GE.reg_of (by kernel_rfl)) (by kernel_rfl) (by kernel_rfl) (by kernel_rfl)
theorem n73_33s : codeB Try.prog E ⟨f, 35, b, ro⟩ n73_33 st = plainS (runOps Try.prog E b q73_33 (ops [true, false, true, false, false, true, true, false, false, true, true, false, false, true, false, false, true, false, false] Try.f73) st) := GE.region_step (id := 8) (GE.reg_of (by kernel_rfl)) (by kernel_rfl)
theorem n73_34s : codeB Try.prog LL ⟨73, 35, b, ro⟩ n73_34 st = normS b ⟨[4, 5, 6], []⟩ .ret st := GE.ret_step (by kernel_rfl) (by kernel_rfl)
theorem n73_32s : codeB Try.prog E cx n73_32 st = thenS (codeB Try.prog E cx n73_33 st) (codeB Try.prog E cx n73_34) := GE.seq_step (by kernel_rfl)
theorem n73_35s : codeB Try.prog E cx n73_35 st = some (.normal, st) := GE.skip_step (by kernel_rfl)
theorem n73_31s : codeB Try.prog E cx n73_31 st = condS (codeB Try.prog E cx n73_32) (codeB Try.prog E cx n73_35) (lk st.σ 31) st := GE.cond_step (c := .tmp 31) (by kernel_rfl)
theorem n73_29s : codeB Try.prog E cx n73_29 st = thenS (codeB Try.prog E cx n73_30 st) (codeB Try.prog E cx n73_31) := GE.seq_step (by kernel_rfl)
theorem n73_28s : codeB Try.prog E cx n73_28 st = blockS 3 (codeB Try.prog E cx n73_29 st) st := GE.block_step (by kernel_rfl)
theorem n73_36s : codeB Try.prog E ⟨f, 35, b, ro⟩ n73_36 st = plainS (runOps Try.prog E b q73_36 (ops [true, false, true, false, false, true, true, false, false, true, true, false, false, true, true] Try.f73) st) := GE.region_step (id := 6) (GE.reg_of (by kernel_rfl)) (by kernel_rfl)
theorem n73_27s : codeB Try.prog E cx n73_27 st = thenS (codeB Try.prog E cx n73_28 st) (codeB Try.prog E cx n73_36) := GE.seq_step (by kernel_rfl)
theorem n73_21s : codeB Try.prog E cx n73_21 st = thenS (codeB Try.prog E cx n73_22 st) (codeB Try.prog E cx n73_27) := GE.seq_step (by kernel_rfl)
theorem n73_20k : LL.kp (⟨73, 35, b, ro⟩ : Cx).fn (4 * rid n73_21 + 3) = some ⟨[7, 8, 0, 1, 10, 11], [⟨0, 0, 2, true⟩, ⟨1, 0, 1, true⟩]⟩ := by kernel_rfl
theorem n73_20s : codeB Try.prog LL ⟨73, 35, b, ro⟩ n73_20 st = headS b ⟨[7, 8, 0, 1, 10, 11], [⟨0, 0, 2, true⟩, ⟨1, 0, 1, true⟩]⟩ st (lpB Try.prog LL ⟨73, 35, b, ro⟩ n73_20 n73_21) := GE.lpB_step (by kernel_rfl) (n73_20k b ro)
theorem n73_20g : LL.code ⟨73, 35, b, ro⟩ n73_20 st = headS b ⟨[7, 8, 0, 1, 10, 11], [⟨0, 0, 2, true⟩, ⟨1, 0, 1, true⟩]⟩ st (lpB Try.prog LL ⟨73, 35, b, ro⟩ n73_20 n73_21) := GE.lpB_again (by kernel_rfl) (n73_20k b ro)
theorem n73_19s : codeB Try.prog E cx n73_19 st = blockS 2 (codeB Try.prog E cx n73_20 st) st := GE.block_step (by kernel_rfl)
theorem n73_17s : codeB Try.prog E cx n73_17 st = thenS (codeB Try.prog E cx n73_18 st) (codeB Try.prog E cx n73_19) := GE.seq_step (by kernel_rfl)
theorem n73_15s : codeB Try.prog E cx n73_15 st = thenS (codeB Try.prog E cx n73_16 st) (codeB Try.prog E cx n73_17) := GE.seq_step (by kernel_rfl)
theorem n73_14s : codeB Try.prog E cx n73_14 st = blockS 1 (codeB Try.prog E cx n73_15 st) st := GE.block_step (by kernel_rfl)
theorem n73_37s : codeB Try.prog E ⟨f, 35, b, ro⟩ n73_37 st = plainS (runOps Try.prog E b q73_37 (ops [true, false, true, false, false, true, true, true] Try.f73) st) := GE.region_step (id := 9) (GE.reg_of (by kernel_rfl)) (by kernel_rfl)
theorem n73_13s : codeB Try.prog E cx n73_13 st = thenS (codeB Try.prog E cx n73_14 st) (codeB Try.prog E cx n73_37) := GE.seq_step (by kernel_rfl)
theorem n73_9s : codeB Try.prog E cx n73_9 st = thenS (codeB Try.prog E cx n73_10 st) (codeB Try.prog E cx n73_13) := GE.seq_step (by kernel_rfl)
theorem n73_7s : codeB Try.prog E cx n73_7 st = thenS (codeB Try.prog E cx n73_8 st) (codeB Try.prog E cx n73_9) := GE.seq_step (by kernel_rfl)
theorem n73_6k : LL.kp (⟨73, 35, b, ro⟩ : Cx).fn (4 * rid n73_7 + 3) = some ⟨[0, 1, 10, 11], [⟨0, 0, 2, true⟩, ⟨1, 0, 1, true⟩]⟩ := by kernel_rfl
theorem n73_6s : codeB Try.prog LL ⟨73, 35, b, ro⟩ n73_6 st = headS b ⟨[0, 1, 10, 11], [⟨0, 0, 2, true⟩, ⟨1, 0, 1, true⟩]⟩ st (lpB Try.prog LL ⟨73, 35, b, ro⟩ n73_6 n73_7) := GE.lpB_step (by kernel_rfl) (n73_6k b ro)
theorem n73_6g : LL.code ⟨73, 35, b, ro⟩ n73_6 st = headS b ⟨[0, 1, 10, 11], [⟨0, 0, 2, true⟩, ⟨1, 0, 1, true⟩]⟩ st (lpB Try.prog LL ⟨73, 35, b, ro⟩ n73_6 n73_7) := GE.lpB_again (by kernel_rfl) (n73_6k b ro)
theorem n73_5s : codeB Try.prog E cx n73_5 st = blockS 0 (codeB Try.prog E cx n73_6 st) st := GE.block_step (by kernel_rfl)
theorem n73_3s : codeB Try.prog E cx n73_3 st = thenS (codeB Try.prog E cx n73_4 st) (codeB Try.prog E cx n73_5) := GE.seq_step (by kernel_rfl)
theorem n73_39s : codeB Try.prog E ⟨f, 35, b, ro⟩ n73_39 st = plainS (runOps Try.prog E b q73_39 (ops [true, true, false] Try.f73) st) := GE.region_step (id := 10) (GE.reg_of (by kernel_rfl)) (by kernel_rfl)
theorem n73_40s : codeB Try.prog LL ⟨73, 35, b, ro⟩ n73_40 st = normS b ⟨[4, 5, 6], []⟩ .ret st := GE.ret_step (by kernel_rfl) (by kernel_rfl)
theorem n73_38s : codeB Try.prog E cx n73_38 st = thenS (codeB Try.prog E cx n73_39 st) (codeB Try.prog E cx n73_40) := GE.seq_step (by kernel_rfl)
theorem n73_2s : codeB Try.prog E cx n73_2 st = thenS (codeB Try.prog E cx n73_3 st) (codeB Try.prog E cx n73_38) := GE.seq_step (by kernel_rfl)
theorem n73_0s : codeB Try.prog E cx n73_0 st = thenS (codeB Try.prog E cx n73_1 st) (codeB Try.prog E cx n73_2) := GE.seq_step (by kernel_rfl)
noncomputable def n74_0 : Code := bodyOf Try.f74
noncomputable def n74_1 : Code := cl n74_0
noncomputable def q74_1 : List Oper := opsOf n74_1
noncomputable def n74_2 : Code := cr n74_0
noncomputable def n74_3 : Code := cl n74_2
noncomputable def q74_3 : List Oper := opsOf n74_3
noncomputable def n74_4 : Code := cr n74_2
theorem body74 : Try.f74.body = some n74_0 := by kernel_rfl
theorem run74 (E : Ev) (args : List Value) (h : List Blk) (hl : args.length ≤ 9) : runB Try.prog E 74 args h = endS Try.prog [.tmp 4] h.length (codeB Try.prog E ⟨74, 9, h.length, none⟩ n74_0 ⟨enumT 0 args, h, []⟩) := GE.run_step Try.func74 body74 (by kernel_rfl) (by decide) (by kernel_rfl) hl
theorem n74_1s : codeB Try.prog E ⟨f, 9, b, ro⟩ n74_1 st = plainS (runOps Try.prog E b q74_1 (ops [false] Try.f74) st) := GE.region_step (id := 0) (GE.reg_of (by kernel_rfl)) (by kernel_rfl)
theorem n74_3s : codeB Try.prog E ⟨f, 9, b, ro⟩ n74_3 st = plainS (runOps Try.prog E b q74_3 (ops [true, false] Try.f74) st) := GE.region_step (id := 1) (GE.reg_of (by kernel_rfl)) (by kernel_rfl)
theorem n74_4s : codeB Try.prog LL ⟨74, 9, b, ro⟩ n74_4 st = normS b ⟨[4], []⟩ .ret st := GE.ret_step (by kernel_rfl) (by kernel_rfl)
theorem n74_2s : codeB Try.prog E cx n74_2 st = thenS (codeB Try.prog E cx n74_3 st) (codeB Try.prog E cx n74_4) := GE.seq_step (by kernel_rfl)
theorem n74_0s : codeB Try.prog E cx n74_0 st = thenS (codeB Try.prog E cx n74_1 st) (codeB Try.prog E cx n74_2) := GE.seq_step (by kernel_rfl)
noncomputable def n75_0 : Code := bodyOf Try.f75
noncomputable def n75_1 : Code := cl n75_0
noncomputable def q75_1 : List Oper := opsOf n75_1
noncomputable def n75_2 : Code := cr n75_0
noncomputable def n75_3 : Code := cl n75_2
noncomputable def q75_3 : List Oper := opsOf n75_3
noncomputable def n75_4 : Code := cr n75_2
theorem body75 : Try.f75.body = some n75_0 := by kernel_rfl
theorem run75 (E : Ev) (args : List Value) (h : List Blk) (hl : args.length ≤ 14) : runB Try.prog E 75 args h = endS Try.prog [.tmp 2] h.length (codeB Try.prog E ⟨75, 14, h.length, none⟩ n75_0 ⟨enumT 0 args, h, []⟩) := GE.run_step Try.func75 body75 (by kernel_rfl) (by decide) (by kernel_rfl) hl
theorem n75_1s : codeB Try.prog E ⟨f, 14, b, ro⟩ n75_1 st = plainS (runOps Try.prog E b q75_1 (ops [false] Try.f75) st) := GE.region_step (id := 0) (GE.reg_of (by kernel_rfl)) (by kernel_rfl)
theorem q75_3g6 : gd q75_3 6 = some 9 := by kernel_rfl
theorem n75_3s : codeB Try.prog E ⟨f, 14, b, ro⟩ n75_3 st = plainS (runOps Try.prog E b q75_3 (ops [true, false] Try.f75) st) := GE.region_step (id := 1) (GE.reg_of (by kernel_rfl)) (by kernel_rfl)
theorem n75_4s : codeB Try.prog LL ⟨75, 14, b, ro⟩ n75_4 st = normS b ⟨[2], []⟩ .ret st := GE.ret_step (by kernel_rfl) (by kernel_rfl)
theorem n75_2s : codeB Try.prog E cx n75_2 st = thenS (codeB Try.prog E cx n75_3 st) (codeB Try.prog E cx n75_4) := GE.seq_step (by kernel_rfl)
theorem n75_0s : codeB Try.prog E cx n75_0 st = thenS (codeB Try.prog E cx n75_1 st) (codeB Try.prog E cx n75_2) := GE.seq_step (by kernel_rfl)
noncomputable def n77_0 : Code := bodyOf Try.f77
noncomputable def n77_1 : Code := cl n77_0
noncomputable def q77_1 : List Oper := opsOf n77_1
noncomputable def n77_2 : Code := cr n77_0
noncomputable def n77_3 : Code := cl n77_2
noncomputable def q77_3 : List Oper := opsOf n77_3
noncomputable def n77_4 : Code := cr n77_2
theorem body77 : Try.f77.body = some n77_0 := by kernel_rfl
theorem run77 (E : Ev) (args : List Value) (h : List Blk) (hl : args.length ≤ 18) : runB Try.prog E 77 args h = endS Try.prog [.tmp 6] h.length (codeB Try.prog E ⟨77, 18, h.length, none⟩ n77_0 ⟨enumT 0 args, h, []⟩) := GE.run_step Try.func77 body77 (by kernel_rfl) (by decide) (by kernel_rfl) hl
theorem n77_1s : codeB Try.prog E ⟨f, 18, b, ro⟩ n77_1 st = plainS (runOps Try.prog E b q77_1 (ops [false] Try.f77) st) := GE.region_step (id := 0) (GE.reg_of (by kernel_rfl)) (by kernel_rfl)
theorem n77_3s : codeB Try.prog E ⟨f, 18, b, ro⟩ n77_3 st = drawS [0, 0, 3, 7, 15, 0, 0, 96, 224, 480, 1023, 2047] (runOpsF Try.prog E b q77_3 (ops [true, false] Try.f77) st) := GE.draw_step (id := 1) (GE.reg_of (by kernel_rfl)) (by kernel_rfl) (by kernel_rfl) (by kernel_rfl)
theorem n77_4s : codeB Try.prog LL ⟨77, 18, b, ro⟩ n77_4 st = normS b ⟨[6], []⟩ .ret st := GE.ret_step (by kernel_rfl) (by kernel_rfl)
theorem n77_2s : codeB Try.prog E cx n77_2 st = thenS (codeB Try.prog E cx n77_3 st) (codeB Try.prog E cx n77_4) := GE.seq_step (by kernel_rfl)
theorem n77_0s : codeB Try.prog E cx n77_0 st = thenS (codeB Try.prog E cx n77_1 st) (codeB Try.prog E cx n77_2) := GE.seq_step (by kernel_rfl)
noncomputable def n78_0 : Code := bodyOf Try.f78
noncomputable def n78_1 : Code := cl n78_0
noncomputable def q78_1 : List Oper := opsOf n78_1
noncomputable def n78_2 : Code := cr n78_0
noncomputable def n78_3 : Code := cl n78_2
noncomputable def q78_3 : List Oper := opsOf n78_3
noncomputable def n78_4 : Code := cr n78_2
theorem body78 : Try.f78.body = some n78_0 := by kernel_rfl
theorem run78 (E : Ev) (args : List Value) (h : List Blk) (hl : args.length ≤ 5) : runB Try.prog E 78 args h = endS Try.prog [.tmp 4] h.length (codeB Try.prog E ⟨78, 5, h.length, none⟩ n78_0 ⟨enumT 0 args, h, []⟩) := GE.run_step Try.func78 body78 (by kernel_rfl) (by decide) (by kernel_rfl) hl
theorem n78_1s : codeB Try.prog E ⟨f, 5, b, ro⟩ n78_1 st = plainS (runOps Try.prog E b q78_1 (ops [false] Try.f78) st) := GE.region_step (id := 0) (GE.reg_of (by kernel_rfl)) (by kernel_rfl)
theorem n78_3s : codeB Try.prog E ⟨f, 5, b, ro⟩ n78_3 st = plainS (runOps Try.prog E b q78_3 (ops [true, false] Try.f78) st) := GE.region_step (id := 1) (GE.reg_of (by kernel_rfl)) (by kernel_rfl)
theorem n78_4s : codeB Try.prog LL ⟨78, 5, b, ro⟩ n78_4 st = normS b ⟨[4], []⟩ .ret st := GE.ret_step (by kernel_rfl) (by kernel_rfl)
theorem n78_2s : codeB Try.prog E cx n78_2 st = thenS (codeB Try.prog E cx n78_3 st) (codeB Try.prog E cx n78_4) := GE.seq_step (by kernel_rfl)
theorem n78_0s : codeB Try.prog E cx n78_0 st = thenS (codeB Try.prog E cx n78_1 st) (codeB Try.prog E cx n78_2) := GE.seq_step (by kernel_rfl)
noncomputable def n80_0 : Code := bodyOf Try.f80
noncomputable def n80_1 : Code := cl n80_0
noncomputable def q80_1 : List Oper := opsOf n80_1
noncomputable def n80_2 : Code := cr n80_0
noncomputable def n80_3 : Code := cl n80_2
noncomputable def q80_3 : List Oper := opsOf n80_3
noncomputable def n80_4 : Code := cr n80_2
noncomputable def n80_5 : Code := cl n80_4
noncomputable def n80_6 : Code := cl n80_5
noncomputable def q80_6 : List Oper := opsOf n80_6
noncomputable def n80_7 : Code := cr n80_5
noncomputable def n80_8 : Code := cl n80_7
noncomputable def n80_9 : Code := cl n80_8
noncomputable def n80_10 : Code := cl n80_9
noncomputable def q80_10 : List Oper := opsOf n80_10
noncomputable def n80_11 : Code := cr n80_9
noncomputable def n80_12 : Code := cl n80_11
noncomputable def n80_13 : Code := cl n80_12
noncomputable def n80_14 : Code := cr n80_12
noncomputable def n80_15 : Code := cr n80_11
noncomputable def n80_16 : Code := cl n80_15
noncomputable def n80_17 : Code := cl n80_16
noncomputable def n80_18 : Code := cl n80_17
noncomputable def q80_18 : List Oper := opsOf n80_18
noncomputable def n80_19 : Code := cr n80_17
noncomputable def n80_20 : Code := cl n80_19
noncomputable def q80_20 : List Oper := opsOf n80_20
noncomputable def n80_21 : Code := cr n80_19
noncomputable def n80_22 : Code := cl n80_21
noncomputable def q80_22 : List Oper := opsOf n80_22
noncomputable def n80_23 : Code := cr n80_21
noncomputable def n80_24 : Code := cr n80_15
noncomputable def q80_24 : List Oper := opsOf n80_24
noncomputable def n80_25 : Code := cr n80_4
noncomputable def n80_26 : Code := cl n80_25
noncomputable def q80_26 : List Oper := opsOf n80_26
noncomputable def n80_27 : Code := cr n80_25
theorem body80 : Try.f80.body = some n80_0 := by kernel_rfl
theorem run80 (E : Ev) (args : List Value) (h : List Blk) (hl : args.length ≤ 35) : runB Try.prog E 80 args h = endS Try.prog [.tmp 5] h.length (codeB Try.prog E ⟨80, 35, h.length, none⟩ n80_0 ⟨enumT 0 args, h, []⟩) := GE.run_step Try.func80 body80 (by kernel_rfl) (by decide) (by kernel_rfl) hl
theorem n80_1s : codeB Try.prog E ⟨f, 35, b, ro⟩ n80_1 st = plainS (runOps Try.prog E b q80_1 (ops [false] Try.f80) st) := GE.region_step (id := 0) (GE.reg_of (by kernel_rfl)) (by kernel_rfl)
theorem n80_3s : codeB Try.prog E ⟨f, 35, b, ro⟩ n80_3 st = plainS (runOps Try.prog E b q80_3 (ops [true, false] Try.f80) st) := GE.region_step (id := 1) (GE.reg_of (by kernel_rfl)) (by kernel_rfl)
theorem n80_6s : codeB Try.prog E ⟨f, 35, b, ro⟩ n80_6 st = plainS (runOps Try.prog E b q80_6 (ops [true, true, false, false] Try.f80) st) := GE.region_step (id := 2) (GE.reg_of (by kernel_rfl)) (by kernel_rfl)
theorem n80_10s : codeB Try.prog E ⟨f, 35, b, ro⟩ n80_10 st = plainS (runOps Try.prog E b q80_10 (ops [true, true, false, true, false, false, false] Try.f80) st) := GE.region_step (id := 3) (GE.reg_of (by kernel_rfl)) (by kernel_rfl)
theorem n80_13s : codeB Try.prog E cx n80_13 st = some (.normal, st) := GE.skip_step (by kernel_rfl)
theorem n80_14s : codeB Try.prog LL ⟨80, 35, b, ro⟩ n80_14 st = normS b ⟨[6], []⟩ (.exit 0) st := GE.exit_step (by kernel_rfl) (by kernel_rfl)
theorem n80_12s : codeB Try.prog E cx n80_12 st = condS (codeB Try.prog E cx n80_13) (codeB Try.prog E cx n80_14) (lk st.σ 11) st := GE.cond_step (c := .tmp 11) (by kernel_rfl)
theorem n80_18s : codeB Try.prog E ⟨f, 35, b, ro⟩ n80_18 st = plainS (runOps Try.prog E b q80_18 (ops [true, true, false, true, false, false, true, true, false, false, false] Try.f80) st) := GE.region_step (id := 4) (GE.reg_of (by kernel_rfl)) (by kernel_rfl)
theorem q80_20g4 : gd q80_20 4 = some 17 := by kernel_rfl
theorem n80_20s : codeB Try.prog E ⟨f, 35, b, ro⟩ n80_20 st = plainS (runOps Try.prog E b q80_20 (ops [true, true, false, true, false, false, true, true, false, false, true, false] Try.f80) st) := GE.region_step (id := 5) (GE.reg_of (by kernel_rfl)) (by kernel_rfl)
theorem n80_22s : codeB Try.prog E ⟨f, 35, b, ro⟩ n80_22 st = drawS [0, 0, 2, 6, 14, 0, 0, 96, 254, 511, 1023] (runOpsF Try.prog E b q80_22 (ops [true, true, false, true, false, false, true, true, false, false, true, true, false] Try.f80) st) := GE.draw_step (id := 6) (GE.reg_of (by kernel_rfl)) (by kernel_rfl) (by kernel_rfl) (by kernel_rfl)
theorem n80_23s : codeB Try.prog E cx n80_23 st = some (.normal, st) := GE.skip_step (by kernel_rfl)
theorem n80_21s : codeB Try.prog E cx n80_21 st = condS (codeB Try.prog E cx n80_22) (codeB Try.prog E cx n80_23) (lk st.σ 22) st := GE.cond_step (c := .tmp 22) (by kernel_rfl)
theorem n80_19s : codeB Try.prog E cx n80_19 st = thenS (codeB Try.prog E cx n80_20 st) (codeB Try.prog E cx n80_21) := GE.seq_step (by kernel_rfl)
theorem n80_17s : codeB Try.prog E cx n80_17 st = thenS (codeB Try.prog E cx n80_18 st) (codeB Try.prog E cx n80_19) := GE.seq_step (by kernel_rfl)
theorem n80_16s : codeB Try.prog E cx n80_16 st = blockS 1 (codeB Try.prog E cx n80_17 st) st := GE.block_step (by kernel_rfl)
theorem n80_24s : codeB Try.prog E ⟨f, 35, b, ro⟩ n80_24 st = plainS (runOps Try.prog E b q80_24 (ops [true, true, false, true, false, false, true, true, true] Try.f80) st) := GE.region_step (id := 7) (GE.reg_of (by kernel_rfl)) (by kernel_rfl)
theorem n80_15s : codeB Try.prog E cx n80_15 st = thenS (codeB Try.prog E cx n80_16 st) (codeB Try.prog E cx n80_24) := GE.seq_step (by kernel_rfl)
theorem n80_11s : codeB Try.prog E cx n80_11 st = thenS (codeB Try.prog E cx n80_12 st) (codeB Try.prog E cx n80_15) := GE.seq_step (by kernel_rfl)
theorem n80_9s : codeB Try.prog E cx n80_9 st = thenS (codeB Try.prog E cx n80_10 st) (codeB Try.prog E cx n80_11) := GE.seq_step (by kernel_rfl)
theorem n80_8k : LL.kp (⟨80, 35, b, ro⟩ : Cx).fn (4 * rid n80_9 + 3) = some ⟨[0, 1, 2, 3, 6, 9, 10], []⟩ := by kernel_rfl
theorem n80_8s : codeB Try.prog LL ⟨80, 35, b, ro⟩ n80_8 st = headS b ⟨[0, 1, 2, 3, 6, 9, 10], []⟩ st (lpB Try.prog LL ⟨80, 35, b, ro⟩ n80_8 n80_9) := GE.lpB_step (by kernel_rfl) (n80_8k b ro)
theorem n80_8g : LL.code ⟨80, 35, b, ro⟩ n80_8 st = headS b ⟨[0, 1, 2, 3, 6, 9, 10], []⟩ st (lpB Try.prog LL ⟨80, 35, b, ro⟩ n80_8 n80_9) := GE.lpB_again (by kernel_rfl) (n80_8k b ro)
theorem n80_7s : codeB Try.prog E cx n80_7 st = blockS 0 (codeB Try.prog E cx n80_8 st) st := GE.block_step (by kernel_rfl)
theorem n80_5s : codeB Try.prog E cx n80_5 st = thenS (codeB Try.prog E cx n80_6 st) (codeB Try.prog E cx n80_7) := GE.seq_step (by kernel_rfl)
theorem n80_26s : codeB Try.prog E ⟨f, 35, b, ro⟩ n80_26 st = plainS (runOps Try.prog E b q80_26 (ops [true, true, true, false] Try.f80) st) := GE.region_step (id := 8) (GE.reg_of (by kernel_rfl)) (by kernel_rfl)
theorem n80_27s : codeB Try.prog LL ⟨80, 35, b, ro⟩ n80_27 st = normS b ⟨[5], []⟩ .ret st := GE.ret_step (by kernel_rfl) (by kernel_rfl)
theorem n80_25s : codeB Try.prog E cx n80_25 st = thenS (codeB Try.prog E cx n80_26 st) (codeB Try.prog E cx n80_27) := GE.seq_step (by kernel_rfl)
theorem n80_4s : codeB Try.prog E cx n80_4 st = thenS (codeB Try.prog E cx n80_5 st) (codeB Try.prog E cx n80_25) := GE.seq_step (by kernel_rfl)
theorem n80_2s : codeB Try.prog E cx n80_2 st = thenS (codeB Try.prog E cx n80_3 st) (codeB Try.prog E cx n80_4) := GE.seq_step (by kernel_rfl)
theorem n80_0s : codeB Try.prog E cx n80_0 st = thenS (codeB Try.prog E cx n80_1 st) (codeB Try.prog E cx n80_2) := GE.seq_step (by kernel_rfl)
noncomputable def n82_0 : Code := bodyOf Try.f82
noncomputable def n82_1 : Code := cl n82_0
noncomputable def q82_1 : List Oper := opsOf n82_1
noncomputable def n82_2 : Code := cr n82_0
noncomputable def n82_3 : Code := cl n82_2
noncomputable def n82_4 : Code := cl n82_3
noncomputable def q82_4 : List Oper := opsOf n82_4
noncomputable def n82_5 : Code := cr n82_3
noncomputable def n82_6 : Code := cl n82_5
noncomputable def n82_7 : Code := cl n82_6
noncomputable def n82_8 : Code := cl n82_7
noncomputable def q82_8 : List Oper := opsOf n82_8
noncomputable def n82_9 : Code := cr n82_7
noncomputable def n82_10 : Code := cl n82_9
noncomputable def n82_11 : Code := cl n82_10
noncomputable def n82_12 : Code := cr n82_10
noncomputable def n82_13 : Code := cr n82_9
noncomputable def n82_14 : Code := cl n82_13
noncomputable def n82_15 : Code := cl n82_14
noncomputable def n82_16 : Code := cl n82_15
noncomputable def q82_16 : List Oper := opsOf n82_16
noncomputable def n82_17 : Code := cr n82_15
noncomputable def n82_18 : Code := cl n82_17
noncomputable def q82_18 : List Oper := opsOf n82_18
noncomputable def n82_19 : Code := cr n82_17
noncomputable def n82_20 : Code := cl n82_19
noncomputable def n82_21 : Code := cl n82_20
noncomputable def q82_21 : List Oper := opsOf n82_21
noncomputable def n82_22 : Code := cr n82_20
noncomputable def n82_23 : Code := cr n82_19
noncomputable def n82_24 : Code := cr n82_13
noncomputable def q82_24 : List Oper := opsOf n82_24
noncomputable def n82_25 : Code := cr n82_2
noncomputable def n82_26 : Code := cl n82_25
noncomputable def q82_26 : List Oper := opsOf n82_26
noncomputable def n82_27 : Code := cr n82_25
theorem body82 : Try.f82.body = some n82_0 := by kernel_rfl
theorem run82 (E : Ev) (args : List Value) (h : List Blk) (hl : args.length ≤ 19) : runB Try.prog E 82 args h = endS Try.prog [.tmp 4] h.length (codeB Try.prog E ⟨82, 19, h.length, none⟩ n82_0 ⟨enumT 0 args, h, []⟩) := GE.run_step Try.func82 body82 (by kernel_rfl) (by decide) (by kernel_rfl) hl
theorem n82_1s : codeB Try.prog E ⟨f, 19, b, ro⟩ n82_1 st = plainS (runOps Try.prog E b q82_1 (ops [false] Try.f82) st) := GE.region_step (id := 0) (GE.reg_of (by kernel_rfl)) (by kernel_rfl)
theorem n82_4s : codeB Try.prog E ⟨f, 19, b, ro⟩ n82_4 st = plainS (runOps Try.prog E b q82_4 (ops [true, false, false] Try.f82) st) := GE.region_step (id := 1) (GE.reg_of (by kernel_rfl)) (by kernel_rfl)
theorem n82_8s : codeB Try.prog E ⟨f, 19, b, ro⟩ n82_8 st = plainS (runOps Try.prog E b q82_8 (ops [true, false, true, false, false, false] Try.f82) st) := GE.region_step (id := 2) (GE.reg_of (by kernel_rfl)) (by kernel_rfl)
theorem n82_11s : codeB Try.prog E cx n82_11 st = some (.normal, st) := GE.skip_step (by kernel_rfl)
theorem n82_12s : codeB Try.prog LL ⟨82, 19, b, ro⟩ n82_12 st = normS b ⟨[], []⟩ (.exit 0) st := GE.exit_step (by kernel_rfl) (by kernel_rfl)
theorem n82_10s : codeB Try.prog E cx n82_10 st = condS (codeB Try.prog E cx n82_11) (codeB Try.prog E cx n82_12) (lk st.σ 9) st := GE.cond_step (c := .tmp 9) (by kernel_rfl)
theorem n82_16s : codeB Try.prog E ⟨f, 19, b, ro⟩ n82_16 st = plainS (runOps Try.prog E b q82_16 (ops [true, false, true, false, false, true, true, false, false, false] Try.f82) st) := GE.region_step (id := 3) (GE.reg_of (by kernel_rfl)) (by kernel_rfl)
theorem n82_18s : codeB Try.prog E ⟨f, 19, b, ro⟩ n82_18 st = plainS (runOps Try.prog E b q82_18 (ops [true, false, true, false, false, true, true, false, false, true, false] Try.f82) st) := GE.region_step (id := 4) (GE.reg_of (by kernel_rfl)) (by kernel_rfl)
theorem n82_21s : codeB Try.prog E ⟨f, 19, b, ro⟩ n82_21 st = plainS (runOps Try.prog E b q82_21 (ops [true, false, true, false, false, true, true, false, false, true, true, false, false] Try.f82) st) := GE.region_step (id := 5) (GE.reg_of (by kernel_rfl)) (by kernel_rfl)
theorem n82_22s : codeB Try.prog LL ⟨82, 19, b, ro⟩ n82_22 st = normS b ⟨[4], []⟩ .ret st := GE.ret_step (by kernel_rfl) (by kernel_rfl)
theorem n82_20s : codeB Try.prog E cx n82_20 st = thenS (codeB Try.prog E cx n82_21 st) (codeB Try.prog E cx n82_22) := GE.seq_step (by kernel_rfl)
theorem n82_23s : codeB Try.prog E cx n82_23 st = some (.normal, st) := GE.skip_step (by kernel_rfl)
theorem n82_19s : codeB Try.prog E cx n82_19 st = condS (codeB Try.prog E cx n82_20) (codeB Try.prog E cx n82_23) (lk st.σ 16) st := GE.cond_step (c := .tmp 16) (by kernel_rfl)
theorem n82_17s : codeB Try.prog E cx n82_17 st = thenS (codeB Try.prog E cx n82_18 st) (codeB Try.prog E cx n82_19) := GE.seq_step (by kernel_rfl)
theorem n82_15s : codeB Try.prog E cx n82_15 st = thenS (codeB Try.prog E cx n82_16 st) (codeB Try.prog E cx n82_17) := GE.seq_step (by kernel_rfl)
theorem n82_14s : codeB Try.prog E cx n82_14 st = blockS 1 (codeB Try.prog E cx n82_15 st) st := GE.block_step (by kernel_rfl)
theorem n82_24s : codeB Try.prog E ⟨f, 19, b, ro⟩ n82_24 st = plainS (runOps Try.prog E b q82_24 (ops [true, false, true, false, false, true, true, true] Try.f82) st) := GE.region_step (id := 6) (GE.reg_of (by kernel_rfl)) (by kernel_rfl)
theorem n82_13s : codeB Try.prog E cx n82_13 st = thenS (codeB Try.prog E cx n82_14 st) (codeB Try.prog E cx n82_24) := GE.seq_step (by kernel_rfl)
theorem n82_9s : codeB Try.prog E cx n82_9 st = thenS (codeB Try.prog E cx n82_10 st) (codeB Try.prog E cx n82_13) := GE.seq_step (by kernel_rfl)
theorem n82_7s : codeB Try.prog E cx n82_7 st = thenS (codeB Try.prog E cx n82_8 st) (codeB Try.prog E cx n82_9) := GE.seq_step (by kernel_rfl)
theorem n82_6k : LL.kp (⟨82, 19, b, ro⟩ : Cx).fn (4 * rid n82_7 + 3) = some ⟨[0, 1, 7, 8], [⟨0, 0, 2, true⟩]⟩ := by kernel_rfl
theorem n82_6s : codeB Try.prog LL ⟨82, 19, b, ro⟩ n82_6 st = headS b ⟨[0, 1, 7, 8], [⟨0, 0, 2, true⟩]⟩ st (lpB Try.prog LL ⟨82, 19, b, ro⟩ n82_6 n82_7) := GE.lpB_step (by kernel_rfl) (n82_6k b ro)
theorem n82_6g : LL.code ⟨82, 19, b, ro⟩ n82_6 st = headS b ⟨[0, 1, 7, 8], [⟨0, 0, 2, true⟩]⟩ st (lpB Try.prog LL ⟨82, 19, b, ro⟩ n82_6 n82_7) := GE.lpB_again (by kernel_rfl) (n82_6k b ro)
theorem n82_5s : codeB Try.prog E cx n82_5 st = blockS 0 (codeB Try.prog E cx n82_6 st) st := GE.block_step (by kernel_rfl)
theorem n82_3s : codeB Try.prog E cx n82_3 st = thenS (codeB Try.prog E cx n82_4 st) (codeB Try.prog E cx n82_5) := GE.seq_step (by kernel_rfl)
theorem n82_26s : codeB Try.prog E ⟨f, 19, b, ro⟩ n82_26 st = plainS (runOps Try.prog E b q82_26 (ops [true, true, false] Try.f82) st) := GE.region_step (id := 7) (GE.reg_of (by kernel_rfl)) (by kernel_rfl)
theorem n82_27s : codeB Try.prog LL ⟨82, 19, b, ro⟩ n82_27 st = normS b ⟨[4], []⟩ .ret st := GE.ret_step (by kernel_rfl) (by kernel_rfl)
theorem n82_25s : codeB Try.prog E cx n82_25 st = thenS (codeB Try.prog E cx n82_26 st) (codeB Try.prog E cx n82_27) := GE.seq_step (by kernel_rfl)
theorem n82_2s : codeB Try.prog E cx n82_2 st = thenS (codeB Try.prog E cx n82_3 st) (codeB Try.prog E cx n82_25) := GE.seq_step (by kernel_rfl)
theorem n82_0s : codeB Try.prog E cx n82_0 st = thenS (codeB Try.prog E cx n82_1 st) (codeB Try.prog E cx n82_2) := GE.seq_step (by kernel_rfl)
theorem lk_22 : lenK Try.prog 22 = some .sl := by kernel_rfl
theorem es_22 : elemK Try.prog 22 = some (none, 2) := by kernel_rfl
theorem ia_55 : aggK Try.prog 55 = some (true, 2) := by kernel_rfl
theorem za_55 : zeroA Try.prog 55 = some (.agg #[(.int .i64 (0)), (.int .i64 (0))]) := by kernel_rfl
theorem sz_55 : aggSize Try.prog 55 = some 2 := by kernel_rfl
theorem fa_55_0 : fieldAt Try.prog 55 0 = some (0, 1) := by kernel_rfl
theorem ia_3 : aggK Try.prog 3 = some (false, 1) := by kernel_rfl
theorem ea_63 : elemK Try.prog 63 = some (some 5, 1) := by kernel_rfl
theorem ia_5 : aggK Try.prog 5 = some (false, 1) := by kernel_rfl
theorem cv_5_3 : convK Try.prog 5 3 = some .i64 := by kernel_rfl
theorem fa_55_1 : fieldAt Try.prog 55 1 = some (1, 1) := by kernel_rfl
theorem pl_55 : plK Try.prog 55 = some [(0, 1), (1, 1)] := by kernel_rfl
theorem ze_22 : zeroE Try.prog 22 = some (.agg #[(.int .i64 (0)), (.int .i64 (0))]) := by kernel_rfl
theorem ba_22_1 : baseArr (Value.cells (.agg #[(.int .i64 (0)), (.int .i64 (0))])) (1 * 2) = #[(.int .i64 (0)), (.int .i64 (0))] := by kernel_rfl
theorem ap_22 : apK Try.prog 22 = some (2, 16) := by kernel_rfl
theorem ni_22 : notInt Try.prog 22 = true := by kernel_rfl
theorem lk_24 : lenK Try.prog 24 = some .sl := by kernel_rfl
theorem es_24 : elemK Try.prog 24 = some (none, 1) := by kernel_rfl
theorem ze_24 : zeroE Try.prog 24 = some (.int .i64 (0)) := by kernel_rfl
theorem ba_24_1 : baseArr (Value.cells (.int .i64 (0))) (1 * 1) = #[(.int .i64 (0))] := by kernel_rfl
theorem ap_24 : apK Try.prog 24 = some (1, 8) := by kernel_rfl
theorem ni_24 : notInt Try.prog 24 = true := by kernel_rfl
theorem fa_90_1 : fieldAt Try.prog 90 1 = some (1, 1) := by kernel_rfl
theorem ia_88 : aggK Try.prog 88 = some (false, 1) := by kernel_rfl
theorem lk_47 : lenK Try.prog 47 = some .sl := by kernel_rfl
theorem es_47 : elemK Try.prog 47 = some (none, 2) := by kernel_rfl
theorem ea_60 : elemK Try.prog 60 = some (some 2, 1) := by kernel_rfl
theorem ba_24_2 : baseArr (Value.cells (.int .i64 (0))) (2 * 1) = #[(.int .i64 (0)), (.int .i64 (0))] := by kernel_rfl
theorem lk_53 : lenK Try.prog 53 = some .sl := by kernel_rfl
theorem es_53 : elemK Try.prog 53 = some (none, 1) := by kernel_rfl
theorem ba_24_0 : baseArr (Value.cells (.int .i64 (0))) (0 * 1) = #[] := by kernel_rfl
theorem sl_24 : elemK Try.prog 24 = some (none, 1) := by kernel_rfl
theorem lk_78 : lenK Try.prog 78 = some .sl := by kernel_rfl
theorem fa_110_0 : fieldAt Try.prog 110 0 = some (0, 1) := by kernel_rfl
theorem ia_108 : aggK Try.prog 108 = some (false, 1) := by kernel_rfl
theorem fa_110_1 : fieldAt Try.prog 110 1 = some (1, 1) := by kernel_rfl
theorem ia_91 : aggK Try.prog 91 = some (false, 1) := by kernel_rfl
theorem ia_78 : aggK Try.prog 78 = some (false, 1) := by kernel_rfl
theorem za_90 : zeroA Try.prog 90 = some (.agg #[(.slice none 0 0), (.pointer none), (.pointer none)]) := by kernel_rfl
theorem pl_90 : plK Try.prog 90 = some [(0, 1), (1, 1), (2, 1)] := by kernel_rfl
theorem za_85 : zeroA Try.prog 85 = some (.pointer none) := by kernel_rfl
theorem sz_85 : aggSize Try.prog 85 = some 1 := by kernel_rfl
theorem ia_85 : aggK Try.prog 85 = some (false, 1) := by kernel_rfl
theorem za_110 : zeroA Try.prog 110 = some (.agg #[(.map none), .nilFunc]) := by kernel_rfl
theorem pl_110 : plK Try.prog 110 = some [(0, 1), (1, 1)] := by kernel_rfl
theorem sz_88 : aggSize Try.prog 88 = some 1 := by kernel_rfl
theorem fa_90_2 : fieldAt Try.prog 90 2 = some (2, 1) := by kernel_rfl
theorem es_78 : elemK Try.prog 78 = some (none, 2) := by kernel_rfl
theorem ia_79 : aggK Try.prog 79 = some (false, 1) := by kernel_rfl

end Go.Proofs.Ytfccmddkblbeoaa.rk
